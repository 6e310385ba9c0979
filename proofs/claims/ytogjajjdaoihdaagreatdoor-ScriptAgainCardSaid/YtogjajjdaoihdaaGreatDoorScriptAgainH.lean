/-
  Texts of this claim, joined: ScrN, RefRead, PolicyR, RefReadB, RefReadC, PktA, PktB, PktD, PktE, PktF, RefPkt, ScrA, ScrB, ScrC, ScrD.
-/
import Derived.Test.YtogjajjdaoihdaaGreatDoorScriptAgainG

namespace Go.Proofs.YtogjajjdaoihdaaGreatDoor
set_option maxRecDepth 20000
open Go Ev Go.Instr
def IsAct (w : World) (c : Cmd) (cs : List Value) : Prop := ∃ b, cs = [.string (bs c.form), fnV 231 [.pointer (some ⟨b, 0, none⟩)]] ∧ Blk w b 273 [fnV (actF c) []]
def isAsk : Cmd → Bool
 | .flows | .mirror | .epoch | .life => true
 | _ => false
def IsLook (w : World) (c : Cmd) (cs : List Value) : Prop := if isAsk c = true then ∃ b, cs = [.string (bs c.form), fnV 242 [.pointer (some ⟨b, 0, none⟩)]] ∧ Blk w b 279 [fnV (lookF c) []] else cs = [.string (bs c.form), fnV (lookF c) []]
def Finds (w : World) (r : Nat) (L : List Cmd) (I : World → Cmd → List Value → Prop) : Prop := ∃ l n, w.heap[r]? = some (sObj l n) ∧ ∀ s, (findC s L = none ∧ sFind s l 0 = none) ∨ ∃ c i cs, findC s L = some c ∧ c ∈ L ∧ sFind s l 0 = some (i, .agg cs.toArray) ∧ I w c cs
abbrev fbA (b : Nat) (c : Cmd) : Ent := blk b 273 [fnV (actF c) []]
abbrev fbL (b : Nat) (c : Cmd) : Ent := blk b 279 [fnV (lookF c) []]
def actE (b0 b1 b2 b3 b4 b5 b6 : Nat) : List SEnt := [((Cmd.word .tick, [.string (bs (Cmd.form .tick)), fnV 231 [.pointer (some ⟨b0, 0, none⟩)]]), 0), ((Cmd.word .go, [.string (bs (Cmd.form .go)), fnV 231 [.pointer (some ⟨b1, 0, none⟩)]]), 1), ((Cmd.word .lose, [.string (bs (Cmd.form .lose)), fnV 231 [.pointer (some ⟨b2, 0, none⟩)]]), 2), ((Cmd.word .twice, [.string (bs (Cmd.form .twice)), fnV 231 [.pointer (some ⟨b3, 0, none⟩)]]), 3), ((Cmd.word .down, [.string (bs (Cmd.form .down)), fnV 231 [.pointer (some ⟨b4, 0, none⟩)]]), 4), ((Cmd.word .up, [.string (bs (Cmd.form .up)), fnV 231 [.pointer (some ⟨b5, 0, none⟩)]]), 5), ((Cmd.word .cut, [.string (bs (Cmd.form .cut)), fnV 231 [.pointer (some ⟨b6, 0, none⟩)]]), 6)]
def lookE (b4 b5 b6 b7 : Nat) : List SEnt := [((Cmd.word .all, [.string (bs (Cmd.form .all)), fnV (lookF .all) []]), 0), ((Cmd.word .fly, [.string (bs (Cmd.form .fly)), fnV (lookF .fly) []]), 1), ((Cmd.word .active, [.string (bs (Cmd.form .active)), fnV (lookF .active) []]), 2), ((Cmd.word .switch, [.string (bs (Cmd.form .switch)), fnV (lookF .switch) []]), 3), ((Cmd.word .flows, [.string (bs (Cmd.form .flows)), fnV 242 [.pointer (some ⟨b4, 0, none⟩)]]), 4), ((Cmd.word .mirror, [.string (bs (Cmd.form .mirror)), fnV 242 [.pointer (some ⟨b5, 0, none⟩)]]), 5), ((Cmd.word .epoch, [.string (bs (Cmd.form .epoch)), fnV 242 [.pointer (some ⟨b6, 0, none⟩)]]), 6), ((Cmd.word .life, [.string (bs (Cmd.form .life)), fnV 242 [.pointer (some ⟨b7, 0, none⟩)]]), 7), ((Cmd.word .events, [.string (bs (Cmd.form .events)), fnV (lookF .events) []]), 8)]
theorem acts_ok (w : World) : CallC Tryz.prog 79 #[] w fun v w' => (∃ r, v = .map (some r) ∧ Finds w' r actsL IsAct) ∧ Ext No w w' := by
 refine fn_intro tabOk Tryz.func79 (by kernel_rfl) rfl Tryz.ntmps79 (lbO rfl) ?_
 have hS := St.start w No
 conv=>whnf
 refine hS.mkMapS (fun r w' hS => ?_)
 replace hS : St w No w' [smap r [] 0] := hS
 conv=>whnf
 refine (one_ok' (Cmd.form .tick) (actF .tick) _).mono ?_
 rintro v w2 ⟨⟨b0, rfl, hb, hB⟩, hx⟩
 replace hS := hS.made hx (blk_local _ _ _) hB (by intro c hc; obtain rfl := List.mem_singleton.1 hc; exact ⟨hb, hB.lt⟩)
 clear hb hB hx
 conv=>whnf
 refine hS.insS 0 rfl (s := Cmd.word .tick) (cs := [.string (bs (Cmd.form .tick)), fnV 231 [.pointer (some ⟨b0, 0, none⟩)]]) (by kernel_rfl) (fun w' hS => ?_)
 replace hS : St w No w' (smap r ((actE b0 0 0 0 0 0 0).take 1) 1 :: [fbA b0 .tick]) := hS
 conv=>whnf
 refine (one_ok' (Cmd.form .go) (actF .go) _).mono ?_
 rintro v w2 ⟨⟨b1, rfl, hb, hB⟩, hx⟩
 replace hS := hS.made hx (blk_local _ _ _) hB (by intro c hc; obtain rfl := List.mem_singleton.1 hc; exact ⟨hb, hB.lt⟩)
 clear hb hB hx
 conv=>whnf
 refine hS.insS 0 rfl (s := Cmd.word .go) (cs := [.string (bs (Cmd.form .go)), fnV 231 [.pointer (some ⟨b1, 0, none⟩)]]) (by kernel_rfl) (fun w' hS => ?_)
 replace hS : St w No w' (smap r ((actE b0 b1 0 0 0 0 0).take 2) 2 :: [fbA b0 .tick, fbA b1 .go]) := hS
 conv=>whnf
 refine (one_ok' (Cmd.form .lose) (actF .lose) _).mono ?_
 rintro v w2 ⟨⟨b2, rfl, hb, hB⟩, hx⟩
 replace hS := hS.made hx (blk_local _ _ _) hB (by intro c hc; obtain rfl := List.mem_singleton.1 hc; exact ⟨hb, hB.lt⟩)
 clear hb hB hx
 conv=>whnf
 refine hS.insS 0 rfl (s := Cmd.word .lose) (cs := [.string (bs (Cmd.form .lose)), fnV 231 [.pointer (some ⟨b2, 0, none⟩)]]) (by kernel_rfl) (fun w' hS => ?_)
 replace hS : St w No w' (smap r ((actE b0 b1 b2 0 0 0 0).take 3) 3 :: [fbA b0 .tick, fbA b1 .go, fbA b2 .lose]) := hS
 conv=>whnf
 refine (one_ok' (Cmd.form .twice) (actF .twice) _).mono ?_
 rintro v w2 ⟨⟨b3, rfl, hb, hB⟩, hx⟩
 replace hS := hS.made hx (blk_local _ _ _) hB (by intro c hc; obtain rfl := List.mem_singleton.1 hc; exact ⟨hb, hB.lt⟩)
 clear hb hB hx
 conv=>whnf
 refine hS.insS 0 rfl (s := Cmd.word .twice) (cs := [.string (bs (Cmd.form .twice)), fnV 231 [.pointer (some ⟨b3, 0, none⟩)]]) (by kernel_rfl) (fun w' hS => ?_)
 replace hS : St w No w' (smap r ((actE b0 b1 b2 b3 0 0 0).take 4) 4 :: [fbA b0 .tick, fbA b1 .go, fbA b2 .lose, fbA b3 .twice]) := hS
 conv=>whnf
 refine (one_ok' (Cmd.form .down) (actF .down) _).mono ?_
 rintro v w2 ⟨⟨b4, rfl, hb, hB⟩, hx⟩
 replace hS := hS.made hx (blk_local _ _ _) hB (by intro c hc; obtain rfl := List.mem_singleton.1 hc; exact ⟨hb, hB.lt⟩)
 clear hb hB hx
 conv=>whnf
 refine hS.insS 0 rfl (s := Cmd.word .down) (cs := [.string (bs (Cmd.form .down)), fnV 231 [.pointer (some ⟨b4, 0, none⟩)]]) (by kernel_rfl) (fun w' hS => ?_)
 replace hS : St w No w' (smap r ((actE b0 b1 b2 b3 b4 0 0).take 5) 5 :: [fbA b0 .tick, fbA b1 .go, fbA b2 .lose, fbA b3 .twice, fbA b4 .down]) := hS
 conv=>whnf
 refine (one_ok' (Cmd.form .up) (actF .up) _).mono ?_
 rintro v w2 ⟨⟨b5, rfl, hb, hB⟩, hx⟩
 replace hS := hS.made hx (blk_local _ _ _) hB (by intro c hc; obtain rfl := List.mem_singleton.1 hc; exact ⟨hb, hB.lt⟩)
 clear hb hB hx
 conv=>whnf
 refine hS.insS 0 rfl (s := Cmd.word .up) (cs := [.string (bs (Cmd.form .up)), fnV 231 [.pointer (some ⟨b5, 0, none⟩)]]) (by kernel_rfl) (fun w' hS => ?_)
 replace hS : St w No w' (smap r ((actE b0 b1 b2 b3 b4 b5 0).take 6) 6 :: [fbA b0 .tick, fbA b1 .go, fbA b2 .lose, fbA b3 .twice, fbA b4 .down, fbA b5 .up]) := hS
 conv=>whnf
 refine (one_ok' (Cmd.form .cut) (actF .cut) _).mono ?_
 rintro v w2 ⟨⟨b6, rfl, hb, hB⟩, hx⟩
 replace hS := hS.made hx (blk_local _ _ _) hB (by intro c hc; obtain rfl := List.mem_singleton.1 hc; exact ⟨hb, hB.lt⟩)
 clear hb hB hx
 conv=>whnf
 refine hS.insS 0 rfl (s := Cmd.word .cut) (cs := [.string (bs (Cmd.form .cut)), fnV 231 [.pointer (some ⟨b6, 0, none⟩)]]) (by kernel_rfl) (fun w' hS => ?_)
 replace hS : St w No w' [smap r [((Cmd.word .tick, [.string (bs (Cmd.form .tick)), fnV 231 [.pointer (some ⟨b0, 0, none⟩)]]), 0), ((Cmd.word .go, [.string (bs (Cmd.form .go)), fnV 231 [.pointer (some ⟨b1, 0, none⟩)]]), 1), ((Cmd.word .lose, [.string (bs (Cmd.form .lose)), fnV 231 [.pointer (some ⟨b2, 0, none⟩)]]), 2), ((Cmd.word .twice, [.string (bs (Cmd.form .twice)), fnV 231 [.pointer (some ⟨b3, 0, none⟩)]]), 3), ((Cmd.word .down, [.string (bs (Cmd.form .down)), fnV 231 [.pointer (some ⟨b4, 0, none⟩)]]), 4), ((Cmd.word .up, [.string (bs (Cmd.form .up)), fnV 231 [.pointer (some ⟨b5, 0, none⟩)]]), 5), ((Cmd.word .cut, [.string (bs (Cmd.form .cut)), fnV 231 [.pointer (some ⟨b6, 0, none⟩)]]), 6)] 7, blk b0 273 [fnV (actF .tick) []], blk b1 273 [fnV (actF .go) []], blk b2 273 [fnV (actF .lose) []], blk b3 273 [fnV (actF .twice) []], blk b4 273 [fnV (actF .down) []], blk b5 273 [fnV (actF .up) []], blk b6 273 [fnV (actF .cut) []]] := hS
 repeat' ((conv => whnf); first | refine RetC.mk ?_ | refine nzO ?_ | refine rgO ?_ | refine ixO ?_ | (first|apply brD|apply brND|apply brN|apply brI) <;> (intro))
 refine ⟨⟨r, rfl, _, _, hS.get 0 rfl, fun s => ?_⟩, hS.ext⟩
 by_cases h0 : s = Cmd.word .tick
 · exact .inr ⟨.tick, 0, _, if_pos h0, List.mem_cons_self, if_pos h0, b0, rfl, hS.blk 1 rfl⟩
 by_cases h1 : s = Cmd.word .go
 · exact .inr ⟨.go, 1, _, (if_neg h0).trans (if_pos h1), List.mem_cons_of_mem _ (List.mem_cons_self), (if_neg h0).trans (if_pos h1), b1, rfl, hS.blk 2 rfl⟩
 by_cases h2 : s = Cmd.word .lose
 · exact .inr ⟨.lose, 2, _, (if_neg h0).trans ((if_neg h1).trans (if_pos h2)), List.mem_cons_of_mem _ (List.mem_cons_of_mem _ (List.mem_cons_self)), (if_neg h0).trans ((if_neg h1).trans (if_pos h2)), b2, rfl, hS.blk 3 rfl⟩
 by_cases h3 : s = Cmd.word .twice
 · exact .inr ⟨.twice, 3, _, (if_neg h0).trans ((if_neg h1).trans ((if_neg h2).trans (if_pos h3))), List.mem_cons_of_mem _ (List.mem_cons_of_mem _ (List.mem_cons_of_mem _ (List.mem_cons_self))), (if_neg h0).trans ((if_neg h1).trans ((if_neg h2).trans (if_pos h3))), b3, rfl, hS.blk 4 rfl⟩
 by_cases h4 : s = Cmd.word .down
 · exact .inr ⟨.down, 4, _, (if_neg h0).trans ((if_neg h1).trans ((if_neg h2).trans ((if_neg h3).trans (if_pos h4)))), List.mem_cons_of_mem _ (List.mem_cons_of_mem _ (List.mem_cons_of_mem _ (List.mem_cons_of_mem _ (List.mem_cons_self)))), (if_neg h0).trans ((if_neg h1).trans ((if_neg h2).trans ((if_neg h3).trans (if_pos h4)))), b4, rfl, hS.blk 5 rfl⟩
 by_cases h5 : s = Cmd.word .up
 · exact .inr ⟨.up, 5, _, (if_neg h0).trans ((if_neg h1).trans ((if_neg h2).trans ((if_neg h3).trans ((if_neg h4).trans (if_pos h5))))), List.mem_cons_of_mem _ (List.mem_cons_of_mem _ (List.mem_cons_of_mem _ (List.mem_cons_of_mem _ (List.mem_cons_of_mem _ (List.mem_cons_self))))), (if_neg h0).trans ((if_neg h1).trans ((if_neg h2).trans ((if_neg h3).trans ((if_neg h4).trans (if_pos h5))))), b5, rfl, hS.blk 6 rfl⟩
 by_cases h6 : s = Cmd.word .cut
 · exact .inr ⟨.cut, 6, _, (if_neg h0).trans ((if_neg h1).trans ((if_neg h2).trans ((if_neg h3).trans ((if_neg h4).trans ((if_neg h5).trans (if_pos h6)))))), List.mem_cons_of_mem _ (List.mem_cons_of_mem _ (List.mem_cons_of_mem _ (List.mem_cons_of_mem _ (List.mem_cons_of_mem _ (List.mem_cons_of_mem _ (List.mem_cons_self)))))), (if_neg h0).trans ((if_neg h1).trans ((if_neg h2).trans ((if_neg h3).trans ((if_neg h4).trans ((if_neg h5).trans (if_pos h6)))))), b6, rfl, hS.blk 7 rfl⟩
 exact .inl ⟨(if_neg h0).trans ((if_neg h1).trans ((if_neg h2).trans ((if_neg h3).trans ((if_neg h4).trans ((if_neg h5).trans ((if_neg h6).trans (rfl))))))), (if_neg h0).trans ((if_neg h1).trans ((if_neg h2).trans ((if_neg h3).trans ((if_neg h4).trans ((if_neg h5).trans ((if_neg h6).trans (rfl)))))))⟩
theorem looks_ok (w : World) : CallC Tryz.prog 80 #[] w fun v w' => (∃ r, v = .map (some r) ∧ Finds w' r looksL IsLook) ∧ Ext No w w' := by
 refine fn_intro tabOk Tryz.func80 (by kernel_rfl) rfl Tryz.ntmps80 (lbO rfl) ?_
 have hS := St.start w No
 conv=>whnf
 refine hS.mkMapS (fun r w' hS => ?_)
 replace hS : St w No w' [smap r [] 0] := hS
 conv=>whnf
 refine hS.insS 0 rfl (s := Cmd.word .all) (cs := [.string (bs (Cmd.form .all)), fnV (lookF .all) []]) (by kernel_rfl) (fun w' hS => ?_)
 replace hS : St w No w' (smap r ((lookE 0 0 0 0).take 1) 1 :: []) := hS
 conv=>whnf
 refine hS.insS 0 rfl (s := Cmd.word .fly) (cs := [.string (bs (Cmd.form .fly)), fnV (lookF .fly) []]) (by kernel_rfl) (fun w' hS => ?_)
 replace hS : St w No w' (smap r ((lookE 0 0 0 0).take 2) 2 :: []) := hS
 conv=>whnf
 refine hS.insS 0 rfl (s := Cmd.word .active) (cs := [.string (bs (Cmd.form .active)), fnV (lookF .active) []]) (by kernel_rfl) (fun w' hS => ?_)
 replace hS : St w No w' (smap r ((lookE 0 0 0 0).take 3) 3 :: []) := hS
 conv=>whnf
 refine hS.insS 0 rfl (s := Cmd.word .switch) (cs := [.string (bs (Cmd.form .switch)), fnV (lookF .switch) []]) (by kernel_rfl) (fun w' hS => ?_)
 replace hS : St w No w' (smap r ((lookE 0 0 0 0).take 4) 4 :: []) := hS
 conv=>whnf
 refine (ask_ok' (lookF .flows) _).mono ?_
 rintro v w2 ⟨⟨b4, rfl, hb, hB⟩, hx⟩
 replace hS := hS.made hx (blk_local _ _ _) hB (by intro c hc; obtain rfl := List.mem_singleton.1 hc; exact ⟨hb, hB.lt⟩)
 clear hb hB hx
 conv=>whnf
 refine hS.insS 0 rfl (s := Cmd.word .flows) (cs := [.string (bs (Cmd.form .flows)), fnV 242 [.pointer (some ⟨b4, 0, none⟩)]]) (by kernel_rfl) (fun w' hS => ?_)
 replace hS : St w No w' (smap r ((lookE b4 0 0 0).take 5) 5 :: [fbL b4 .flows]) := hS
 conv=>whnf
 refine (ask_ok' (lookF .mirror) _).mono ?_
 rintro v w2 ⟨⟨b5, rfl, hb, hB⟩, hx⟩
 replace hS := hS.made hx (blk_local _ _ _) hB (by intro c hc; obtain rfl := List.mem_singleton.1 hc; exact ⟨hb, hB.lt⟩)
 clear hb hB hx
 conv=>whnf
 refine hS.insS 0 rfl (s := Cmd.word .mirror) (cs := [.string (bs (Cmd.form .mirror)), fnV 242 [.pointer (some ⟨b5, 0, none⟩)]]) (by kernel_rfl) (fun w' hS => ?_)
 replace hS : St w No w' (smap r ((lookE b4 b5 0 0).take 6) 6 :: [fbL b4 .flows, fbL b5 .mirror]) := hS
 conv=>whnf
 refine (ask_ok' (lookF .epoch) _).mono ?_
 rintro v w2 ⟨⟨b6, rfl, hb, hB⟩, hx⟩
 replace hS := hS.made hx (blk_local _ _ _) hB (by intro c hc; obtain rfl := List.mem_singleton.1 hc; exact ⟨hb, hB.lt⟩)
 clear hb hB hx
 conv=>whnf
 refine hS.insS 0 rfl (s := Cmd.word .epoch) (cs := [.string (bs (Cmd.form .epoch)), fnV 242 [.pointer (some ⟨b6, 0, none⟩)]]) (by kernel_rfl) (fun w' hS => ?_)
 replace hS : St w No w' (smap r ((lookE b4 b5 b6 0).take 7) 7 :: [fbL b4 .flows, fbL b5 .mirror, fbL b6 .epoch]) := hS
 conv=>whnf
 refine (ask_ok' (lookF .life) _).mono ?_
 rintro v w2 ⟨⟨b7, rfl, hb, hB⟩, hx⟩
 replace hS := hS.made hx (blk_local _ _ _) hB (by intro c hc; obtain rfl := List.mem_singleton.1 hc; exact ⟨hb, hB.lt⟩)
 clear hb hB hx
 conv=>whnf
 refine hS.insS 0 rfl (s := Cmd.word .life) (cs := [.string (bs (Cmd.form .life)), fnV 242 [.pointer (some ⟨b7, 0, none⟩)]]) (by kernel_rfl) (fun w' hS => ?_)
 replace hS : St w No w' (smap r ((lookE b4 b5 b6 b7).take 8) 8 :: [fbL b4 .flows, fbL b5 .mirror, fbL b6 .epoch, fbL b7 .life]) := hS
 conv=>whnf
 refine hS.insS 0 rfl (s := Cmd.word .events) (cs := [.string (bs (Cmd.form .events)), fnV (lookF .events) []]) (by kernel_rfl) (fun w' hS => ?_)
 replace hS : St w No w' [smap r [((Cmd.word .all, [.string (bs (Cmd.form .all)), fnV (lookF .all) []]), 0), ((Cmd.word .fly, [.string (bs (Cmd.form .fly)), fnV (lookF .fly) []]), 1), ((Cmd.word .active, [.string (bs (Cmd.form .active)), fnV (lookF .active) []]), 2), ((Cmd.word .switch, [.string (bs (Cmd.form .switch)), fnV (lookF .switch) []]), 3), ((Cmd.word .flows, [.string (bs (Cmd.form .flows)), fnV 242 [.pointer (some ⟨b4, 0, none⟩)]]), 4), ((Cmd.word .mirror, [.string (bs (Cmd.form .mirror)), fnV 242 [.pointer (some ⟨b5, 0, none⟩)]]), 5), ((Cmd.word .epoch, [.string (bs (Cmd.form .epoch)), fnV 242 [.pointer (some ⟨b6, 0, none⟩)]]), 6), ((Cmd.word .life, [.string (bs (Cmd.form .life)), fnV 242 [.pointer (some ⟨b7, 0, none⟩)]]), 7), ((Cmd.word .events, [.string (bs (Cmd.form .events)), fnV (lookF .events) []]), 8)] 9, blk b4 279 [fnV (lookF .flows) []], blk b5 279 [fnV (lookF .mirror) []], blk b6 279 [fnV (lookF .epoch) []], blk b7 279 [fnV (lookF .life) []]] := hS
 repeat' ((conv => whnf); first | refine RetC.mk ?_ | refine nzO ?_ | refine rgO ?_ | refine ixO ?_ | (first|apply brD|apply brND|apply brN|apply brI) <;> (intro))
 refine ⟨⟨r, rfl, _, _, hS.get 0 rfl, fun s => ?_⟩, hS.ext⟩
 by_cases h0 : s = Cmd.word .all
 · exact .inr ⟨.all, 0, _, if_pos h0, List.mem_cons_self, if_pos h0, rfl⟩
 by_cases h1 : s = Cmd.word .fly
 · exact .inr ⟨.fly, 1, _, (if_neg h0).trans (if_pos h1), List.mem_cons_of_mem _ (List.mem_cons_self), (if_neg h0).trans (if_pos h1), rfl⟩
 by_cases h2 : s = Cmd.word .active
 · exact .inr ⟨.active, 2, _, (if_neg h0).trans ((if_neg h1).trans (if_pos h2)), List.mem_cons_of_mem _ (List.mem_cons_of_mem _ (List.mem_cons_self)), (if_neg h0).trans ((if_neg h1).trans (if_pos h2)), rfl⟩
 by_cases h3 : s = Cmd.word .switch
 · exact .inr ⟨.switch, 3, _, (if_neg h0).trans ((if_neg h1).trans ((if_neg h2).trans (if_pos h3))), List.mem_cons_of_mem _ (List.mem_cons_of_mem _ (List.mem_cons_of_mem _ (List.mem_cons_self))), (if_neg h0).trans ((if_neg h1).trans ((if_neg h2).trans (if_pos h3))), rfl⟩
 by_cases h4 : s = Cmd.word .flows
 · exact .inr ⟨.flows, 4, _, (if_neg h0).trans ((if_neg h1).trans ((if_neg h2).trans ((if_neg h3).trans (if_pos h4)))), List.mem_cons_of_mem _ (List.mem_cons_of_mem _ (List.mem_cons_of_mem _ (List.mem_cons_of_mem _ (List.mem_cons_self)))), (if_neg h0).trans ((if_neg h1).trans ((if_neg h2).trans ((if_neg h3).trans (if_pos h4)))), b4, rfl, hS.blk 1 rfl⟩
 by_cases h5 : s = Cmd.word .mirror
 · exact .inr ⟨.mirror, 5, _, (if_neg h0).trans ((if_neg h1).trans ((if_neg h2).trans ((if_neg h3).trans ((if_neg h4).trans (if_pos h5))))), List.mem_cons_of_mem _ (List.mem_cons_of_mem _ (List.mem_cons_of_mem _ (List.mem_cons_of_mem _ (List.mem_cons_of_mem _ (List.mem_cons_self))))), (if_neg h0).trans ((if_neg h1).trans ((if_neg h2).trans ((if_neg h3).trans ((if_neg h4).trans (if_pos h5))))), b5, rfl, hS.blk 2 rfl⟩
 by_cases h6 : s = Cmd.word .epoch
 · exact .inr ⟨.epoch, 6, _, (if_neg h0).trans ((if_neg h1).trans ((if_neg h2).trans ((if_neg h3).trans ((if_neg h4).trans ((if_neg h5).trans (if_pos h6)))))), List.mem_cons_of_mem _ (List.mem_cons_of_mem _ (List.mem_cons_of_mem _ (List.mem_cons_of_mem _ (List.mem_cons_of_mem _ (List.mem_cons_of_mem _ (List.mem_cons_self)))))), (if_neg h0).trans ((if_neg h1).trans ((if_neg h2).trans ((if_neg h3).trans ((if_neg h4).trans ((if_neg h5).trans (if_pos h6)))))), b6, rfl, hS.blk 3 rfl⟩
 by_cases h7 : s = Cmd.word .life
 · exact .inr ⟨.life, 7, _, (if_neg h0).trans ((if_neg h1).trans ((if_neg h2).trans ((if_neg h3).trans ((if_neg h4).trans ((if_neg h5).trans ((if_neg h6).trans (if_pos h7))))))), List.mem_cons_of_mem _ (List.mem_cons_of_mem _ (List.mem_cons_of_mem _ (List.mem_cons_of_mem _ (List.mem_cons_of_mem _ (List.mem_cons_of_mem _ (List.mem_cons_of_mem _ (List.mem_cons_self))))))), (if_neg h0).trans ((if_neg h1).trans ((if_neg h2).trans ((if_neg h3).trans ((if_neg h4).trans ((if_neg h5).trans ((if_neg h6).trans (if_pos h7))))))), b7, rfl, hS.blk 4 rfl⟩
 by_cases h8 : s = Cmd.word .events
 · exact .inr ⟨.events, 8, _, (if_neg h0).trans ((if_neg h1).trans ((if_neg h2).trans ((if_neg h3).trans ((if_neg h4).trans ((if_neg h5).trans ((if_neg h6).trans ((if_neg h7).trans (if_pos h8)))))))), List.mem_cons_of_mem _ (List.mem_cons_of_mem _ (List.mem_cons_of_mem _ (List.mem_cons_of_mem _ (List.mem_cons_of_mem _ (List.mem_cons_of_mem _ (List.mem_cons_of_mem _ (List.mem_cons_of_mem _ (List.mem_cons_self)))))))), (if_neg h0).trans ((if_neg h1).trans ((if_neg h2).trans ((if_neg h3).trans ((if_neg h4).trans ((if_neg h5).trans ((if_neg h6).trans ((if_neg h7).trans (if_pos h8)))))))), rfl⟩
 exact .inl ⟨(if_neg h0).trans ((if_neg h1).trans ((if_neg h2).trans ((if_neg h3).trans ((if_neg h4).trans ((if_neg h5).trans ((if_neg h6).trans ((if_neg h7).trans ((if_neg h8).trans (rfl))))))))), (if_neg h0).trans ((if_neg h1).trans ((if_neg h2).trans ((if_neg h3).trans ((if_neg h4).trans ((if_neg h5).trans ((if_neg h6).trans ((if_neg h7).trans ((if_neg h8).trans (rfl)))))))))⟩
end Go.Proofs.YtogjajjdaoihdaaGreatDoor

namespace Go.Proofs.YtogjajjdaoihdaaGreatDoor
set_option maxRecDepth 20000
open Go Ev

theorem below_ok : ∀ (m n : Nat), n < 10 ^ (m + 1) → m ≤ 18 → ∀ w : World, CallC Tryz.prog 91 #[.int .i64 (-(n : Int))] w fun v w' => v = .string (bs (Lib.decDigits n)) ∧ Ext No w w' := by
 intro m
 induction m with
 | zero =>
   intro n hn hm w
   have hd : Lib.decDigits n = [UInt8.ofNat (48 + n)] := Lib.decDigits_one (by omega)
   refine fn_intro tabOk Tryz.func91 (by kernel_rfl) rfl Tryz.ntmps91 (lbO rfl) ?_
   have hS := St.start w No
   conv=>whnf
   refine brD (fun h => ?_) (fun h => absurd (show -(n : Int) > -10 by omega) h)
   conv=>whnf
   refine rgO ?_
   rw [show (48 : Int) - -(n : Int) = ((48 + n : Nat) : Int) by omega]
   conv=>whnf
   refine (rbyte_ok (48 + n) (by omega) _).mono ?_
   rintro v w1 ⟨rfl, hx⟩
   replace hS := hS.no hx
   repeat' ((conv => whnf); first | refine RetC.mk ?_ | refine nzO ?_ | refine rgO ?_ | refine ixO ?_ | (first|apply brD|apply brND|apply brN|apply brI) <;> (intro))
   rw [hd]
   exact ⟨rfl, hS.ext⟩
 | succ m ih =>
   intro n hn hm w
   by_cases hlt : n < 10
   · exact ih n (Nat.lt_of_lt_of_le (by omega) (Nat.pow_le_pow_right (by decide) (show 1 ≤ m + 1 by omega))) (by omega) w
   have hd : Lib.decDigits n = Lib.decDigits (n / 10) ++ [UInt8.ofNat (48 + n % 10)] := by
     rw [Lib.decDigits, dif_neg hlt]
   have hdl := dec_len (m + 1) n hn
   rw [hd, List.length_append, List.length_singleton] at hdl
   have hbig : n < 10 ^ 19 := Nat.lt_of_lt_of_le hn (Nat.pow_le_pow_right (by decide) (by omega))
   have hq : (-(n : Int)).tdiv 10 = -((n / 10 : Nat) : Int) := by
     rw [Int.neg_tdiv, Int.tdiv_eq_ediv_of_nonneg (by omega)]
     omega
   have hr : (-(n : Int)).tmod 10 = -((n % 10 : Nat) : Int) := by
     rw [Int.neg_tmod, Int.tmod_eq_emod_of_nonneg (by omega)]
     omega
   refine fn_intro tabOk Tryz.func91 (by kernel_rfl) rfl Tryz.ntmps91 (lbO rfl) ?_
   have hS := St.start w No
   conv=>whnf
   refine brD (fun h => absurd (show ¬ -(n : Int) > -10 by omega) (not_not_intro h)) (fun h => ?_)
   conv=>whnf
   refine nzO ?_
   rw [hq]
   refine rgO ?_
   conv=>whnf
   refine (ih (n / 10) (by rw [Nat.div_lt_iff_lt_mul (by decide), ← Nat.pow_succ]; exact hn) (by omega) _).mono ?_
   rintro v w1 ⟨rfl, hx⟩
   replace hS := hS.no hx
   conv=>whnf
   refine nzO ?_
   rw [hr]
   conv=>whnf
   refine rgO ?_
   rw [show (48 : Int) - -((n % 10 : Nat) : Int) = ((48 + n % 10 : Nat) : Int) by omega]
   conv=>whnf
   refine (rbyte_ok (48 + n % 10) (by omega) _).mono ?_
   rintro v w2 ⟨rfl, hx⟩
   replace hS := hS.no hx
   conv=>whnf
   refine addS (by simp; omega) ?_
   repeat' ((conv => whnf); first | refine RetC.mk ?_ | refine nzO ?_ | refine rgO ?_ | refine ixO ?_ | (first|apply brD|apply brND|apply brN|apply brI) <;> (intro))
   rw [hd]
   exact ⟨rfl, hS.ext⟩
theorem decimal_ok (n : Nat) (hn : n < 10 ^ 18) (w : World) : CallC Tryz.prog 46 #[.int .i64 (n : Int)] w fun v w' => v = .string (bs (Lib.itoa n)) ∧ Ext No w w' := by
 refine fn_intro tabOk Tryz.func46 (by kernel_rfl) rfl Tryz.ntmps46 (lbO rfl) ?_
 have hS := St.start w No
 conv=>whnf
 refine rgO ?_
 rw [show (0 : Int) - (n : Int) = -(n : Int) by omega]
 conv=>whnf
 refine (below_ok 17 n hn (by omega) _).mono ?_
 rintro v w1 ⟨rfl, hx⟩
 replace hS := hS.no hx
 repeat' ((conv => whnf); first | refine RetC.mk ?_ | refine nzO ?_ | refine rgO ?_ | refine ixO ?_ | (first|apply brD|apply brND|apply brN|apply brI) <;> (intro))
 rw [itoa_nat]
 exact ⟨rfl, hS.ext⟩

end Go.Proofs.YtogjajjdaoihdaaGreatDoor

namespace Go.Proofs.YtogjajjdaoihdaaGreatDoor
set_option maxRecDepth 20000
open Go Ev

def idxT (p : List UInt8) : List (List UInt8) → Nat → Int
 | [], _ => -1
 | x :: l, k => if p = x then (k : Int) else idxT p l (k + 1)
theorem idxT_step {p : List UInt8} {l : List (List UInt8)} {k : Nat} {x : List UInt8} (h : l[k]? = some x) : idxT p (l.drop k) k = if p = x then (k : Int) else idxT p (l.drop (k + 1)) (k + 1) := by
 obtain ⟨lt, e⟩ := List.getElem?_eq_some_iff.1 h
 rw [List.drop_eq_getElem_cons lt, e]
 rfl
theorem protoK_idx (p : List UInt8) : protoK p = idxT p [sAny, sUdp, sTcp] 0 := rfl
theorem idxT_ok {w : World} {G : List UInt8 → Prop} {a : Option Addr} {n c : Nat} {xs : List (List UInt8)} (p : List UInt8) (hx : Slc w 1 encT G a n xs) :
   CallC Tryz.prog 114 #[.slice a n c, .string (bs p)] w fun v w' => v = .int .i64 (idxT p xs 0) ∧ Ext No w w' := by
 have hm := hx.max
 have hl := hx.len
 refine fn_intro tabOk Tryz.func114 (by kernel_rfl) rfl Tryz.ntmps114 (lbO rfl) ?_
 have hS := St.start w No
 conv=>whnf
 refine loopR tabOk (fun σ w' q => ∃ k : Nat, σ = [(8, .int .i64 (k : Int)), (7, .int .i64 n), (1, .string (bs p)), (0, .slice a n c)] ∧ q = n - k ∧ k ≤ n ∧ St w No w' [] ∧ idxT p xs 0 = idxT p (xs.drop k) k)
   (σ' := [(8, .int .i64 ((0 : Nat) : Int)), (7, .int .i64 n), (1, .string (bs p)), (0, .slice a n c)]) (n := n) ⟨rfl, rfl, rfl, rfl, trivial⟩ ⟨0, rfl, rfl, Nat.zero_le _, hS, by simp⟩ ?_
 clear hS
 rintro _ w1 q ⟨k, rfl, rfl, hk, hS, hi⟩
 conv=>whnf
 refine brD (fun h3 => ?_) (fun h3 => ?_)
 · obtain ⟨b0, o0, x, hxk, hgx, rfl, _, hc⟩ := hx.at (k := k) (by omega)
   have hst := idxT_step (p := p) hxk
   conv=>whnf
   refine ixO ?_
   conv=>whnf
   refine hS.ldr (hc 0 _ rfl) id ?_
   conv=>whnf
   refine eqS2 ?_
   conv=>whnf
   refine brD (fun h4 => ?_) (fun h4 => ?_)
   · repeat' ((conv => whnf); first | refine RetC.mk ?_ | refine nzO ?_ | refine rgO ?_ | refine ixO ?_ | (first|apply brD|apply brND|apply brN|apply brI) <;> (intro))
     rw [hi, hst, if_pos h4]
     exact ⟨rfl, hS.ext⟩
   · (conv => whnf)
     refine rgO ?_
     conv=>whnf
     refine LoopE.mk ⟨_, [(8, .int .i64 ((k + 1 : Nat) : Int)), (7, _), (1, _), (0, _)], ?_, ⟨rfl, rfl, rfl, rfl, trivial⟩, ⟨k + 1, rfl, rfl, by omega, hS, by rw [hi, hst, if_neg h4]⟩⟩
     omega
 · repeat' ((conv => whnf); first | refine RetC.mk ?_ | refine nzO ?_ | refine rgO ?_ | refine ixO ?_ | (first|apply brD|apply brND|apply brN|apply brI) <;> (intro))
   have : k = n := by omega
   subst this
   rw [hi, List.drop_of_length_le (by omega)]
   exact ⟨rfl, hS.ext⟩
theorem protos_slc {w : World} (h : Protos w) : Slc w 1 encT (fun _ => True) (some ⟨13, 0, none⟩) 3 [sAny, sUdp, sTcp] :=
 Slc.of_cells codT rfl (by decide) (fun _ _ => trivial) fun j v hj => ⟨_, _, rfl, h j v hj⟩
theorem pnumber_ok (l : List UInt8) (w : World) (hl : l.length ≤ 100000) (hV : NumV w) (ht : Pow10 w) :
   CallC Tryz.prog 115 #[.string (bs l)] w fun v w' => (∃ n k, v = .tuple #[.int .i64 n, .bool k] ∧ I64 n ∧ ((k = true ∧ 0 ≤ n) ↔ 0 ≤ numS l 5) ∧ (0 ≤ numS l 5 → n = numS l 5)) ∧ Ext No w w' := by
 refine fn_intro tabOk Tryz.func115 (by kernel_rfl) rfl Tryz.ntmps115 (lbO rfl) ?_
 have hS := St.start w No
 conv=>whnf
 refine (atoi_ok l w hl hV).mono ?_
 rintro v w1 ⟨⟨n, e, rfl, hn, hcase⟩, hx⟩
 replace hS := hS.no hx
 rcases hcase with ⟨ha, rfl⟩ | ⟨ha, t, u, rfl⟩
 · obtain ⟨k1, k2⟩ := numS_atoi 5 (by omega) ha
   conv=>whnf
   refine brD (fun h5 => ?_) (fun h5 => ?_)
   · have h5 : l.length ≤ 5 := by
       have := bs_size l
       omega
     conv=>whnf
     refine (itoa_ok n hn.1 hn.2 _ (ht.no hS.ext)).mono ?_
     rintro v w2 ⟨rfl, hx⟩
     replace hS := hS.no hx
     conv=>whnf
     refine eqS2 ?_
     repeat' ((conv => whnf); first | refine RetC.mk ?_ | refine nzO ?_ | refine rgO ?_ | refine ixO ?_ | (first|apply brD|apply brND|apply brN|apply brI) <;> (intro))
     refine ⟨⟨_, _, rfl, hn, ?_, k2⟩, hS.ext⟩
     rw [← k1, decide_eq_true_iff]
     exact ⟨fun h => ⟨⟨h5, h.1⟩, h.2⟩, fun h => ⟨h.1.2, h.2⟩⟩
   · have h5 : ¬ l.length ≤ 5 := by
       have := bs_size l
       omega
     repeat' ((conv => whnf); first | refine RetC.mk ?_ | refine nzO ?_ | refine rgO ?_ | refine ixO ?_ | (first|apply brD|apply brND|apply brN|apply brI) <;> (intro))
     refine ⟨⟨_, _, rfl, hn, ?_, k2⟩, hS.ext⟩
     rw [← k1]
     exact ⟨fun h => (by cases h.1), fun h => absurd h.1.1 h5⟩
 · have hneg := numS_atoi_none (most := 5) (by omega) ha
   repeat' ((conv => whnf); first | refine RetC.mk ?_ | refine nzO ?_ | refine rgO ?_ | refine ixO ?_ | (first|apply brD|apply brND|apply brN|apply brI) <;> (intro))
   exact ⟨⟨_, _, rfl, hn, ⟨fun h => (by cases h.1), fun h => absurd h (by omega)⟩, fun h => absurd h (by omega)⟩, hS.ext⟩
theorem cut_small (l : List UInt8) (c : UInt8) : ∃ x y k, Lib.cut l [c] = (x, y, k) ∧ x.length ≤ l.length ∧ y.length ≤ l.length := by
 unfold Lib.cut
 split
 · exact ⟨_, _, _, rfl, by rw [List.length_take]; omega, by rw [List.length_drop]; omega⟩
 · exact ⟨_, _, _, rfl, Nat.le_refl _, by simp⟩
theorem ruleOfS_is {s a b p n x y : List UInt8} {k : Bool} {q : RuleS} (hw : cutR 32 s = [a, b, p, n]) (hc : Lib.cut n [45] = (x, y, k)) (h : ruleOfS s = some q) : (⟨decide (a = sAllow), decide (b = sOut), protoK p, numS x 5, numS y 5⟩ : RuleS) = q := by
 unfold ruleOfS at h
 rw [hw] at h
 dsimp only at h
 split at h
 · split at h
   · rename_i x' y' hn
     have hcut := cut_two hn
     rw [Lib.join_one, hc] at hcut
     obtain ⟨e1, e2⟩ := Prod.mk.inj hcut
     obtain ⟨e2, _⟩ := Prod.mk.inj e2
     subst e1 e2
     split at h
     · exact Option.some.inj h
     · cases h
   · cases h
 · cases h
theorem pread_ok (s : List UInt8) (w : World) (hl : s.length ≤ 100000) (hM : MaxL w) (hV : NumV w) (ht : Pow10 w) (hP : Protos w) :
   CallC Tryz.prog 65 #[.string (bs s)] w fun v w' => (∃ r k, v = .tuple #[.agg (encRule r).toArray, .bool k] ∧ (ruleOfS s = if k = true then some r else none)) ∧ Ext No w w' := by
 refine fn_intro tabOk Tryz.func65 (by kernel_rfl) rfl Tryz.ntmps65 (lbO rfl) ?_
 have hS := St.start w No
 conv=>whnf
 refine hS.new (fun b2 w' hb2 hS => ?_)
 replace hS : St w No w' [blk b2 98 (encRule noRule)] := hS
 conv=>whnf
 refine (split_ok s 32 _ hl (hM.no hS.ext)).mono ?_
 rintro v w1 ⟨⟨b, rfl, hb, hB⟩, hx⟩
 replace hS := hS.made hx (blk_local _ _ _) hB (by intro c hc; obtain rfl := List.mem_singleton.1 hc; exact ⟨hb, hB.lt⟩)
 conv=>whnf
 refine brND (fun h4 => ?_) (fun h4 => ?_)
 · have h4 : (cutR 32 s).length ≠ 4 := by omega
   conv=>whnf
   refine hS.st 0 rfl (lbO rfl) rfl (fun w' hS => ?_)
   replace hS : St w No w' [blk b2 98 (encRule noRule), blk b 9 ((cutR 32 s).map fun l => .string (bs l))] := hS
   conv=>whnf
   refine hS.laX 0 rfl rfl ?_
   repeat' ((conv => whnf); first | refine RetC.mk ?_ | refine nzO ?_ | refine rgO ?_ | refine ixO ?_ | (first|apply brD|apply brND|apply brN|apply brI) <;> (intro))
   exact ⟨⟨noRule, false, rfl, ruleOfS_words h4⟩, hS.ext⟩
 obtain ⟨a, b4, p, n, hw⟩ := words4 (s := s) (by omega)
 have hlen := cutR_len 32 s
 rw [hw] at hS ⊢
 have hl4 : ([a, b4, p, n] : List (List UInt8)).length = 4 := rfl
 replace hS : St w No w1 [blk b2 98 (encRule noRule), blk b 9 [.string (bs a), .string (bs b4), .string (bs p), .string (bs n)]] := hS
 conv=>whnf
 (refine drawS tabOk mixed [] (No) [0, 1, 2, 3, 4, 5] (by kernel_rfl) ?_; rintro w1 rfl; replace hS := hS.drew)
 conv=>whnf
 refine ixO ?_
 conv=>whnf
 refine hS.ldF 1 rfl rfl id ?_
 conv=>whnf
 refine (idxT_ok p (protos_slc (hP.no hS.ext))).mono ?_
 rintro v w2 ⟨rfl, hx⟩
 replace hS := hS.no hx
 refine KeepC.mk hx ?_
 rw [← protoK_idx]
 clear hx
 conv=>whnf
 refine ixO ?_
 conv=>whnf
 refine hS.ld 1 rfl rfl ?_
 have hjn := join_cutR 32 s
 have hnl : n.length ≤ s.length := by
   rw [← hjn, hw]
   simp only [join_cc, Lib.join_one, List.length_append]
   omega
 obtain ⟨x, y, k, hcut, hxl, hyl⟩ := cut_small n 45
 conv=>whnf
 refine (cutT_ok n 45 _ (by omega) (hM.no hS.ext)).mono ?_
 rintro v w3 ⟨rfl, hx⟩
 replace hS := hS.no hx
 rw [hcut]
 clear hx
 conv=>whnf
 refine (pnumber_ok x _ (by omega) (hV.no hS.ext) (ht.no hS.ext)).mono ?_
 rintro v w4 ⟨⟨n1, k1, rfl, i1, c1, e1⟩, hx⟩
 replace hS := hS.no hx
 clear hx
 conv=>whnf
 refine (pnumber_ok y _ (by omega) (hV.no hS.ext) (ht.no hS.ext)).mono ?_
 rintro v w5 ⟨⟨n2, k2, rfl, i2, c2, e2⟩, hx⟩
 replace hS := hS.no hx
 clear hx
 conv=>whnf
 refine brD (fun h1 => ?_) (fun h1 => ?_)
 · skip
   conv=>whnf
   refine hS.st 0 rfl (lbO rfl) rfl (fun w' hS => ?_)
   replace hS : St w No w' [blk b2 98 (encRule noRule), blk b 9 [.string (bs a), .string (bs b4), .string (bs p), .string (bs n)]] := hS
   conv=>whnf
   refine hS.laX 0 rfl rfl ?_
   repeat' ((conv => whnf); first | refine RetC.mk ?_ | refine nzO ?_ | refine rgO ?_ | refine ixO ?_ | (first|apply brD|apply brND|apply brN|apply brI) <;> (intro))
   exact ⟨⟨noRule, false, rfl, ruleOfS_none hw hcut (.inl h1)⟩, hS.ext⟩
 cases k1 with
 | false =>
   have h2 : numS x 5 < 0 := Int.not_le.1 fun h => (by cases (c1.2 h).1)
   conv=>whnf
   refine hS.st 0 rfl (lbO rfl) rfl (fun w' hS => ?_)
   replace hS : St w No w' [blk b2 98 (encRule noRule), blk b 9 [.string (bs a), .string (bs b4), .string (bs p), .string (bs n)]] := hS
   conv=>whnf
   refine hS.laX 0 rfl rfl ?_
   repeat' ((conv => whnf); first | refine RetC.mk ?_ | refine nzO ?_ | refine rgO ?_ | refine ixO ?_ | (first|apply brD|apply brND|apply brN|apply brI) <;> (intro))
   exact ⟨⟨noRule, false, rfl, ruleOfS_none hw hcut (.inr (.inl h2))⟩, hS.ext⟩
 | true =>
 cases k2 with
 | false =>
   have h2 : numS y 5 < 0 := Int.not_le.1 fun h => (by cases (c2.2 h).1)
   conv=>whnf
   refine hS.st 0 rfl (lbO rfl) rfl (fun w' hS => ?_)
   replace hS : St w No w' [blk b2 98 (encRule noRule), blk b 9 [.string (bs a), .string (bs b4), .string (bs p), .string (bs n)]] := hS
   conv=>whnf
   refine hS.laX 0 rfl rfl ?_
   repeat' ((conv => whnf); first | refine RetC.mk ?_ | refine nzO ?_ | refine rgO ?_ | refine ixO ?_ | (first|apply brD|apply brND|apply brN|apply brI) <;> (intro))
   exact ⟨⟨noRule, false, rfl, ruleOfS_none hw hcut (.inr (.inr h2))⟩, hS.ext⟩
 | true =>
 conv=>whnf
 refine brD (fun h2 => ?_) (fun h2 => ?_)
 · have h3 : numS x 5 < 0 := Int.not_le.1 fun h => absurd (c1.2 h).2 (by omega)
   conv=>whnf
   refine hS.st 0 rfl (lbO rfl) rfl (fun w' hS => ?_)
   replace hS : St w No w' [blk b2 98 (encRule noRule), blk b 9 [.string (bs a), .string (bs b4), .string (bs p), .string (bs n)]] := hS
   conv=>whnf
   refine hS.laX 0 rfl rfl ?_
   repeat' ((conv => whnf); first | refine RetC.mk ?_ | refine nzO ?_ | refine rgO ?_ | refine ixO ?_ | (first|apply brD|apply brND|apply brN|apply brI) <;> (intro))
   exact ⟨⟨noRule, false, rfl, ruleOfS_none hw hcut (.inr (.inl h3))⟩, hS.ext⟩
 conv=>whnf
 refine brD (fun h3 => ?_) (fun h3 => ?_)
 · have h4 : numS y 5 < 0 := Int.not_le.1 fun h => absurd (c2.2 h).2 (by omega)
   conv=>whnf
   refine hS.st 0 rfl (lbO rfl) rfl (fun w' hS => ?_)
   replace hS : St w No w' [blk b2 98 (encRule noRule), blk b 9 [.string (bs a), .string (bs b4), .string (bs p), .string (bs n)]] := hS
   conv=>whnf
   refine hS.laX 0 rfl rfl ?_
   repeat' ((conv => whnf); first | refine RetC.mk ?_ | refine nzO ?_ | refine rgO ?_ | refine ixO ?_ | (first|apply brD|apply brND|apply brN|apply brI) <;> (intro))
   exact ⟨⟨noRule, false, rfl, ruleOfS_none hw hcut (.inr (.inr h4))⟩, hS.ext⟩
 have g1 : 0 ≤ numS x 5 := c1.1 ⟨rfl, by omega⟩
 have g2 : 0 ≤ numS y 5 := c2.1 ⟨rfl, by omega⟩
 obtain rfl := e1 g1
 obtain rfl := e2 g2
 have hiff := ruleOfS_some hw hcut (by omega) g1 g2
 generalize hr : (⟨decide (a = sAllow), decide (b4 = sOut), protoK p, numS x 5, numS y 5⟩ : RuleS) = r at hiff
 have hp2 := (protoK_b (p := p) (by omega)).2
 conv=>whnf
 (refine drawS tabOk mixed [] ((· ≠ b)) [0, 1, 2, 3, 4, 5, 6, 7, 8, 9, 10, 11, 12, 13] (by kernel_rfl) ?_; rintro w1 rfl; replace hS := hS.drew)
 have hK := hS.ref (· ≠ b)
 conv=>whnf
 refine ixO ?_
 conv=>whnf
 refine hS.ldF 1 rfl rfl (fun h => h rfl) ?_
 conv=>whnf
 refine eqS2 ?_
 conv=>whnf
 refine ixO ?_
 conv=>whnf
 refine hS.ldF 1 rfl rfl (fun h => h rfl) ?_
 conv=>whnf
 refine eqS2 ?_
 conv=>whnf
 refine hS.newK hK (fun b13 w' hK hS => KeepC.mk hK ?_)
 conv=>whnf
 refine hS.stK hK 2 rfl (lbO rfl) rfl (hS.ne 2 1 rfl rfl (by decide)) (fun w' hK hS => KeepC.mk hK ?_)
 replace hS : St w No w' [blk b2 98 (encRule noRule), blk b 9 [.string (bs a), .string (bs b4), .string (bs p), .string (bs n)], blk b13 98 (encRule r)] := by
   rw [← hr]
   exact hS
 clear hK
 conv=>whnf
 (refine drawS tabOk mixed [] ((· = b2)) [0, 1, 3, 2, 4, 5, 6] (by kernel_rfl) ?_; rintro w1 rfl; replace hS := hS.drew)
 have hK := hS.ref (· = b2)
 conv=>whnf
 refine hS.laXF 2 rfl rfl (hS.ne 2 0 rfl rfl (by decide)) ?_
 conv=>whnf
 refine hS.laXF 2 rfl rfl (hS.ne 2 0 rfl rfl (by decide)) ?_
 have hnum : NumR r ∧ 0 ≤ r.proto ∧ r.proto ≤ 2 := by
   rw [← hr]
   exact ⟨⟨i1, i2⟩, by dsimp only; omega, hp2⟩
 conv=>whnf
 refine (line_ok r hnum.1 hnum.2 _ (ht.no hS.ext) (hP.no hS.ext)).mono ?_
 rintro v w6 ⟨rfl, hx⟩
 replace hS := hS.no hx
 replace hK := hK.trans hx.of_no
 refine KeepC.mk hK ?_
 clear hx
 conv=>whnf
 refine eqS2 ?_
 conv=>whnf
 refine hS.stK hK 0 rfl (lbO rfl) rfl rfl (fun w' hK hS => KeepC.mk hK ?_)
 replace hS : St w No w' [blk b2 98 (encRule r), blk b 9 [.string (bs a), .string (bs b4), .string (bs p), .string (bs n)], blk b13 98 (encRule r)] := hS
 conv=>whnf
 refine hS.laX 0 rfl rfl ?_
 repeat' ((conv => whnf); first | refine RetC.mk ?_ | refine nzO ?_ | refine rgO ?_ | refine ixO ?_ | (first|apply brD|apply brND|apply brN|apply brI) <;> (intro))
 refine ⟨⟨r, _, rfl, ?_⟩, hS.ext⟩
 by_cases h : r.line = s
 · rw [if_pos (decide_eq_true h), hiff.1 h]
 · rw [if_neg (fun e => h (of_decide_eq_true e))]
   cases ho : ruleOfS s with
   | none => rfl
   | some q =>
     exfalso
     obtain rfl := ruleOfS_is hw hcut ho
     exact h (hiff.2 (by rw [ho, hr]))
theorem join_mem_len {w sep : List UInt8} : ∀ (ws : List (List UInt8)), w ∈ ws → w.length ≤ (Lib.join ws sep).length
 | [], h => by cases h
 | [x], h => by
   obtain rfl := List.mem_singleton.1 h
   rw [Lib.join_one]
   exact Nat.le_refl _
 | x :: y :: r, h => by
   rw [join_cc, List.length_append, List.length_append]
   rcases List.mem_cons.1 h with rfl | h
   · omega
   · have := join_mem_len (w := w) (sep := sep) (y :: r) h
     omega
theorem cutR_mem_len {c : UInt8} {l w : List UInt8} (h : w ∈ cutR c l) : w.length ≤ l.length := by
 have := join_mem_len (sep := [c]) _ h
 rwa [join_cutR] at this
theorem rulesOfL_step {ts : List (List UInt8)} {k : Nat} {t : List UInt8} (h : ts[k]? = some t) : rulesOfL (ts.drop k) k = match ruleOfS t with
   | some r => (r :: (rulesOfL (ts.drop (k + 1)) (k + 1)).1, (rulesOfL (ts.drop (k + 1)) (k + 1)).2)
   | none => ([], some k) := by
 obtain ⟨lt, e⟩ := List.getElem?_eq_some_iff.1 h
 rw [List.drop_eq_getElem_cons lt, e]
 rfl
theorem trimN_len (s : List UInt8) : (trimN s).length ≤ s.length := by
 unfold trimN
 split
 · rw [List.length_dropLast]
   omega
 · exact Nat.le_refl _
theorem nilR_holds (w : World) : (ownL 98 5 encRule (.slice none 0 0) []).holds w := own_nil _ _ _
theorem preads_ok {E : Nat → Addr} {q : Nat} (s : List UInt8) (w : World) (hl : s.length ≤ 100000) (hM : MaxL w) (hV : NumV w) (ht : Pow10 w) (hP : Protos w) (hE : Errs w E q [1, 2]) :
   CallC Tryz.prog 25 #[.string (bs s)] w fun v w' => (∃ a c e, v = .tuple #[.slice a (rulesOfS s).1.length c, e] ∧ FaultV E w w' e (rulesOfS s).2.1 (rulesOfS s).2.2 ∧ (ownL 98 5 encRule (.slice a (rulesOfS s).1.length c) (rulesOfS s).1).holds w' ∧ Fresh w w' (.slice a (rulesOfS s).1.length c)) ∧ Ext No w w' := by
 have hsz := bs_size s
 refine fn_intro tabOk Tryz.func25 (by kernel_rfl) rfl Tryz.ntmps25 (lbO rfl) ?_
 have hS := St.start w No
 unfold rulesOfS
 conv=>whnf
 refine brD (fun h1 => ?_) (fun h1 => ?_)
 · rw [if_pos (by omega)]
   repeat' ((conv => whnf); first | refine RetC.mk ?_ | refine nzO ?_ | refine rgO ?_ | refine ixO ?_ | (refine drawS tabOk mixed [] (No) [0, 1, 2] (by kernel_rfl) ?_; rintro w1 rfl; replace hS := hS.drew) | refine hS.ldr (hE.at_ 2 rfl) id ?_ | refine hS.ldrF (hE.at_ 2 rfl) id id ?_ | (first|apply brD|apply brND|apply brN|apply brI) <;> (intro))
   exact ⟨⟨none, 0, _, rfl, .inl ⟨rfl, rfl⟩, nilR_holds _, fun g hg => by cases hg⟩, hS.ext⟩
 rw [if_neg (by omega)]
 conv=>whnf
 refine eqS2 ?_
 conv=>whnf
 refine brD (fun h2 => ?_) (fun h2 => ?_)
 · rw [if_pos h2]
   repeat' ((conv => whnf); first | refine RetC.mk ?_ | refine nzO ?_ | refine rgO ?_ | refine ixO ?_ | (first|apply brD|apply brND|apply brN|apply brI) <;> (intro))
   exact ⟨⟨none, 0, _, rfl, .inl ⟨rfl, rfl⟩, nilR_holds _, fun g hg => by cases hg⟩, hS.ext⟩
 rw [if_neg h2]
 have htl := trimN_len s
 conv=>whnf
 refine (trim_ok s _ hl).mono ?_
 rintro v w1 ⟨rfl, hx⟩
 replace hS := hS.no hx
 clear hx
 conv=>whnf
 refine (split_ok (trimN s) 10 _ (by omega) (hM.no hS.ext)).mono ?_
 rintro v w2 ⟨⟨b, rfl, hb, hB⟩, hx⟩
 replace hS := hS.made hx (blk_local _ _ _) hB (by intro c hc; obtain rfl := List.mem_singleton.1 hc; exact ⟨hb, hB.lt⟩)
 clear hx hB hb
 have hcl := cutR_len 10 (trimN s)
 have hmem : ∀ t ∈ cutR 10 (trimN s), t.length ≤ 100000 := fun t h => by
   have := cutR_mem_len h
   omega
 generalize hts : cutR 10 (trimN s) = ts at hS hcl hmem ⊢
 obtain ⟨n, hn⟩ : ∃ n, n = ts.length := ⟨_, rfl⟩
 rw [← hn]
 have hS := hS.add (ownL_local (e := 98) (enc := encRule) (sz := 5) (v := .slice none 0 0) (xs := [])) (nilR_holds _) (by simp [ownL, own, Value.ownBlock]) (by simp [ownL, own, Value.ownBlock])
 conv=>whnf
 refine loopR tabOk (fun σ w' q => ∃ (k : Nat) (a : Option Addr) (c : Nat) (rs : List RuleS), σ = [(20, .int .i64 (k : Int)), (19, .int .i64 (n : Int)), (18, .slice (some ⟨b, 0, none⟩) n n), (4, .slice a k c)] ∧ q = n - k ∧ k ≤ n ∧ rs.length = k ∧ rulesOfL ts 0 = (rs ++ (rulesOfL (ts.drop k) k).1, (rulesOfL (ts.drop k) k).2) ∧ St w No w' [blk b 9 (ts.map fun l => .string (bs l)), ownL 98 5 encRule (.slice a k c) rs])
   (σ' := [(20, .int .i64 ((0 : Nat) : Int)), (19, .int .i64 (n : Int)), (18, .slice (some ⟨b, 0, none⟩) n n), (4, .slice none 0 0)]) (n := n) ⟨rfl, rfl, rfl, rfl, trivial⟩ ⟨0, none, 0, [], rfl, rfl, Nat.zero_le _, rfl, rfl, hS⟩ ?_
 clear hS
 rintro _ w1 q ⟨k, a, c, rs, rfl, rfl, hk, hrs, hi, hS⟩
 conv=>whnf
 refine brD (fun h3 => ?_) (fun h3 => ?_)
 · have hkn : k < ts.length := by omega
   have hat := List.getElem?_eq_getElem hkn
   generalize ts[k] = t at hat
   have hst := rulesOfL_step hat
   have htl := hmem t (List.mem_of_getElem? hat)
   have hcell : (ts.map fun l => Value.string (bs l))[0 + k * 1]? = some (.string (bs t)) := by
     rw [Nat.zero_add, Nat.mul_one, List.getElem?_map, hat]
     rfl
   conv=>whnf
   refine ixO ?_
   conv=>whnf
   refine hS.ld 0 rfl hcell ?_
   conv=>whnf
   refine (pread_ok t _ htl (hM.no hS.ext) (hV.no hS.ext) (ht.no hS.ext) (hP.no hS.ext)).mono ?_
   rintro v w3 ⟨⟨r, kk, rfl, hr⟩, hx⟩
   replace hS := hS.no hx
   clear hx
   conv=>whnf
   refine hS.new (fun b7 w' hb7 hS => ?_)
   conv=>whnf
   refine hS.st 2 rfl (lbO rfl) rfl (fun w' hS => ?_)
   replace hS : St w No w' [blk b 9 (ts.map fun l => .string (bs l)), ownL 98 5 encRule (.slice a k c) rs, blk b7 98 (encRule r)] := hS
   cases kk with
   | false =>
     rw [if_neg (by simp)] at hr
     rw [hr] at hst
     have e1 : (rulesOfL ts 0).2 = some k := by rw [hi, hst]
     rw [e1]
     conv=>whnf
     (refine drawS tabOk mixed [] (No) [0, 1, 2, 5, 3, 4, 6] (by kernel_rfl) ?_; rintro w1 rfl; replace hS := hS.drew)
     conv=>whnf
     refine hS.ldrF (hE.at_ 1 rfl) id id ?_
     conv=>whnf
     refine hS.newK (hS.ref No) (fun f w' hK hS => KeepC.mk hK ?_)
     have hf := hS.fresh 3 rfl
     repeat' ((conv => whnf); first | refine RetC.mk ?_ | refine nzO ?_ | refine rgO ?_ | refine ixO ?_ | (first|apply brD|apply brND|apply brN|apply brI) <;> (intro))
     exact ⟨⟨none, 0, _, rfl, .inr ⟨by dsimp only; omega, by dsimp only; omega, f, rfl, hf, hS.blk 3 rfl⟩, nilR_holds _, fun g hg => by cases hg⟩, hS.ext⟩
   | true =>
     rw [if_pos rfl] at hr
     rw [hr] at hst
     dsimp only at hst
     conv=>whnf
     refine hS.laX 2 rfl rfl ?_
     conv=>whnf
     refine hS.lit (cs := encRule r) Tryz.underlying28 (sz := 5) (by kernel_rfl) (z := .agg (encRule noRule).toArray) (by kernel_rfl) rfl rfl (by rfl) (fun bl w' hbl hS => ?_)
     have hx : Slc w' 5 encRule (fun _ => True) (some ⟨bl, 0, none⟩) 1 [r] := Slc.of_blk codRule (hS.blk 3 rfl) rfl (by decide) (fun _ _ => trivial) rfl
     conv=>whnf
     refine hS.appS codRule 1 Tryz.underlying28 (bytes := 32) (by kernel_rfl) (z := .agg (encRule noRule).toArray) (by kernel_rfl) rfl rfl hx (by unfold maxLen; omega) (by omega) (fun a2 c2 w' hS => ?_)
     rw [hrs] at hS ⊢
     replace hS : St w No w' [blk b 9 (ts.map fun l => .string (bs l)), ownL 98 5 encRule (.slice a2 (k + 1) c2) (rs ++ [r]), blk b7 98 (encRule r), blk bl 98 (encRule r)] := hS
     conv=>whnf
     refine rgO ?_
     conv=>whnf
     refine LoopE.mk ⟨_, [(20, .int .i64 ((k + 1 : Nat) : Int)), (19, _), (18, _), (4, _)], ?_, ⟨rfl, rfl, rfl, rfl, trivial⟩, ⟨k + 1, a2, c2, rs ++ [r], rfl, rfl, by omega, by rw [List.length_append, hrs]; rfl, by rw [hi, hst]; simp, hS.keep 2⟩⟩
     omega
 · obtain rfl : k = n := by omega
   rw [List.drop_of_length_le (by omega)] at hi
   have e1 : rulesOfL ts 0 = (rs, none) := by
     rw [hi]
     simp [rulesOfL]
   rw [e1]
   dsimp only
   have hx := ownL_slc (G := fun _ => True) codRule (hS.get 1 rfl) fun _ _ => trivial
   conv=>whnf
   refine (rcheck_ok hx ((hE.sub rfl).ext hS.ext fun _ h => h.elim)).mono ?_
   rintro v w3 ⟨hf, hx'⟩
   have hle := hS.ext.size
   replace hS := hS.no hx'
   have hcd := fault_code rs
   generalize faultL rs = F at hf hcd ⊢
   obtain ⟨fc, fa⟩ := F
   dsimp only at hf hcd ⊢
   cases fc with
   | succ j =>
     rw [if_pos (by omega)]
     obtain ⟨t, u, rfl⟩ := hf.ne
     repeat' ((conv => whnf); first | refine RetC.mk ?_ | refine nzO ?_ | refine rgO ?_ | refine ixO ?_ | (first|apply brD|apply brND|apply brN|apply brI) <;> (intro))
     exact ⟨⟨none, 0, _, rfl, hf.older hle, nilR_holds _, fun g hg => by cases hg⟩, hS.ext⟩
   | zero =>
     rw [if_neg (by omega)]
     obtain rfl : v = .nilIface := by
       rcases hf with ⟨_, h⟩ | ⟨_, h, _⟩
       · exact h
       · omega
     repeat' ((conv => whnf); first | refine RetC.mk ?_ | refine nzO ?_ | refine rgO ?_ | refine ixO ?_ | (first|apply brD|apply brND|apply brN|apply brI) <;> (intro))
     rw [← hrs]
     exact ⟨⟨a, c, _, rfl, .inl ⟨rfl, rfl⟩, by rw [hrs]; exact hS.get 1 rfl, by rw [hrs]; exact hS.freshAt 1 rfl⟩, hS.ext⟩
end Go.Proofs.YtogjajjdaoihdaaGreatDoor

namespace Go.Proofs.YtogjajjdaoihdaaGreatDoor
set_option maxRecDepth 20000
open Go Ev
section
variable {P : Program} {k : Value → Prop} {t : TypeId}
end
end Go.Proofs.YtogjajjdaoihdaaGreatDoor

namespace Go.Proofs.YtogjajjdaoihdaaGreatDoor
set_option maxRecDepth 20000
open Go Ev
theorem ownT_some {w : World} {a : Option Addr} {n c : Nat} {xs : List (List UInt8)} (h : (ownL 9 1 encT (.slice a n c) xs).holds w) (hn : xs ≠ []) : ∃ b, a = some ⟨b, 0, none⟩ := by
 obtain ⟨h1, ⟨h2, h3⟩ | ⟨g, cap, cur, h2, _⟩⟩ := h
 · exact absurd (List.eq_nil_of_length_eq_zero h3) hn
 · cases h2
   exact ⟨g, rfl⟩
end Go.Proofs.YtogjajjdaoihdaaGreatDoor

namespace Go.Proofs.YtogjajjdaoihdaaGreatDoor
set_option maxRecDepth 20000
open Go Ev
theorem Ev.index_run1 {P : Program} {t e : TypeId} {l : List Value} {k : Nat} {x : Value} {i : Int} (hu : P.underlying t = some (.array l.length e)) (hi : (P.info? e).isSome = true) (hd : ∃ d, P.underlying e = some d) (hc : P.cellsOf e = 1) (hg : aggB P e = false) (hx : l[k]? = some x) (hk : i = (k : Int)) (w : World) :
   (Instr.index t (.agg l.toArray) (.int .i64 i)).run P w = .ok x w := by
 subst hk
 have hlt := (List.getElem?_eq_some_iff.1 hx).1
 have h1 := cellsOf_run hi w
 have h2 := part_run1 (P := P) (t := e) (cs := l) (off := k) hd hx hg w
 rw [hc] at h1
 simp [Instr.index, underlying, hu, asIntOf, asAgg, h1, h2, hlt]
theorem ownT_cap {w : World} {a : Option Addr} {n c : Nat} {xs : List (List UInt8)} (h : (ownL 9 1 encT (.slice a n c) xs).holds w) : n ≤ c := by
 obtain ⟨h1, ⟨h2, h3⟩ | ⟨g, cap, cur, h2, h3, h4, h5, h6, h7, h8⟩⟩ := h
 · cases h2
   exact Nat.le_refl _
 · cases h2
   assumption
def NamesV (w : World) : Prop := CellsAt w 11 0 (fnames.map fun l => .string (bs l))
theorem NamesV.no {w w' : World} (h : NamesV w) (hx : Ext No w w') : NamesV w' := hx.cells h id
theorem names_of {L : List (String × DataW Unit)} {W : World} (hl : laidMetH Tryz.prog L W) (hm : ("twinrampart/packet.names", .agg (fnames.map fun z => .lit (.string z))) ∈ L) : NamesV W := by
 obtain ⟨ps, ⟨g', t', cs, fuel, p, q, hg', ht', hvar, hd, _, _⟩, _⟩ := laid_one hl hm rfl
 have hg : Tryz.prog.globalNamed "twinrampart/packet.names" = some 11 := by kernel_rfl
 have hty : (Tryz.prog.globals[11]?).map (·.type) = some 188 := by kernel_rfl
 obtain rfl := Option.some.inj (hg.symm.trans hg')
 obtain rfl := Option.some.inj (hty.symm.trans ht')
 have hc := strs_of_trod Tryz.underlying188 Tryz.underlying9 (by kernel_rfl) (by kernel_rfl) hd
 intro i v hv
 have := World.var?_cell hg hvar i
 rw [Nat.zero_add, this, ← Array.getElem?_toList, hc]
 exact hv
theorem fbit_and : ∀ n, n < 16 → ∀ i, i < 4 → (band ((n / 2 ^ i : Nat) : Int) 1 == 1) = fbit (n : Nat) i := by decide +kernel
theorem pflags_ok (n : Nat) (hn : n < 16) (w : World) (hN : NamesV w) : CallC Tryz.prog 42 #[.int .i64 (n : Int)] w fun v w' => v = .string (bs (ftext n)) ∧ Ext No w w' := by
 refine fn_intro tabOk Tryz.func42 (by kernel_rfl) rfl Tryz.ntmps42 (lbO rfl) ?_
 have hS := St.start w No
 have hS := hS.add (ownL_local (e := 9) (enc := encT) (sz := 1) (v := .slice none 0 0) (xs := [])) (own_nil _ _ _) (by simp [ownL, own, Value.ownBlock]) (by simp [ownL, own, Value.ownBlock])
 conv=>whnf
 refine hS.lar (l := fnames.map fun l => .string (bs l)) rfl hN id ?_
 conv=>whnf
 refine loopR tabOk (fun σ w' q => ∃ (k : Nat) (a : Option Addr) (m c : Nat), σ = [(7, .int .i64 (k : Int)), (6, .agg (fnames.map fun l => .string (bs l)).toArray), (3, .slice a m c), (0, .int .i64 (n : Int))] ∧ q = 4 - k ∧ k ≤ 4 ∧ (fwords n k).length = m ∧ (m = 0 → a = none) ∧ St w No w' [ownL 9 1 encT (.slice a m c) (fwords n k)])
   (σ' := [(7, .int .i64 ((0 : Nat) : Int)), (6, .agg (fnames.map fun l => .string (bs l)).toArray), (3, .slice none 0 0), (0, .int .i64 (n : Int))]) (n := 4) ⟨rfl, rfl, rfl, rfl, trivial⟩ ⟨0, none, 0, 0, rfl, rfl, Nat.zero_le _, rfl, fun _ => rfl, hS⟩ ?_
 clear hS
 rintro _ w1 q ⟨k, a, m, c, rfl, rfl, hk, hm, ha, hS⟩
 have hm4 := fwords_len n k
 conv=>whnf
 refine brD (fun h3 => ?_) (fun h3 => ?_)
 · have hk4 : k < 4 := by omega
   have hst := fwords_step n k
   have hat : (fnames.map fun l => Value.string (bs l))[k]? = some (.string (bs (fnames.getD k []))) := by
     rw [List.getElem?_map, List.getD_eq_getElem?_getD, List.getElem?_eq_getElem (show k < fnames.length from hk4)]
     rfl
   conv=>whnf
   refine PureC.of (index_run1 (l := fnames.map fun l => .string (bs l)) (k := k) Tryz.underlying188 (by kernel_rfl) ⟨_, Tryz.underlying9⟩ (by kernel_rfl) (by kernel_rfl) hat rfl) ?_
   conv=>whnf
   refine shrN (n := k) rfl (by show k ≤ 64; omega) ?_
   have hb := fbit_and n hn k hk4
   conv=>whnf
   rw [hb]
   refine brI (fun h4 => ?_) (fun h4 => ?_)
   · rw [if_pos h4] at hst
     conv=>whnf
     refine hS.lit (cs := encT (fnames.getD k [])) Tryz.underlying22 (sz := 1) (by kernel_rfl) (z := .string (bs [])) (by kernel_rfl) rfl rfl (by rfl) (fun bl w' hbl hS => ?_)
     have hx : Slc w' 1 encT (fun _ => True) (some ⟨bl, 0, none⟩) 1 [fnames.getD k []] := Slc.of_blk codT (hS.blk 1 rfl) rfl (by decide) (fun _ _ => trivial) rfl
     conv=>whnf
     refine hS.appS codT 0 Tryz.underlying22 (bytes := 16) (by kernel_rfl) (z := .string (bs [])) (by kernel_rfl) rfl rfl hx (by unfold maxLen; omega) (by omega) (fun a2 c2 w' hS => ?_)
     rw [hm] at hS ⊢
     replace hS : St w No w' [ownL 9 1 encT (.slice a2 (m + 1) c2) (fwords n k ++ [fnames.getD k []]), blk bl 9 (encT (fnames.getD k []))] := hS
     replace hS := hS.keep 1
     rw [← hst] at hS
     conv=>whnf
     refine rgO ?_
     conv=>whnf
     refine LoopE.mk ⟨_, [(7, .int .i64 ((k + 1 : Nat) : Int)), (6, _), (3, _), (0, _)], ?_, ⟨rfl, rfl, rfl, rfl, trivial⟩, ⟨k + 1, a2, m + 1, c2, rfl, rfl, by omega, by rw [hst, List.length_append, hm]; rfl, fun h => absurd h (by omega), hS⟩⟩
     omega
   · rw [if_neg (by rw [h4]; decide), List.append_nil] at hst
     conv=>whnf
     refine rgO ?_
     conv=>whnf
     refine LoopE.mk ⟨_, [(7, .int .i64 ((k + 1 : Nat) : Int)), (6, _), (3, _), (0, _)], ?_, ⟨rfl, rfl, rfl, rfl, trivial⟩, ⟨k + 1, a, m, c, rfl, rfl, by omega, by rw [hst, hm], ha, by rw [hst]; exact hS⟩⟩
     omega
 · obtain rfl : k = 4 := by omega
   have hj := fjoin_len n (Nat.le_refl 4)
   by_cases hz : fwords n 4 = []
   · have hm0 : m = 0 := by rw [← hm, hz]; rfl
     obtain rfl := ha hm0
     repeat' ((conv => whnf); first | refine RetC.mk ?_ | refine nzO ?_ | refine rgO ?_ | refine ixO ?_ | (first|apply brD|apply brND|apply brN|apply brI) <;> (intro))
     unfold ftext
     rw [if_pos hz]
     exact ⟨rfl, hS.ext⟩
   · obtain ⟨b, rfl⟩ := ownT_some (hS.get 0 rfl) hz
     have hpos : 0 < m := by
       rw [← hm]
       exact List.length_pos_iff.2 hz
     have hcap := ownT_cap (hS.get 0 rfl)
     have hcells : CellsAt w1 b 0 ((fwords n 4).map fun l => .string (bs l)) := by
       have := own_cells codT (hS.get 0 rfl)
       rwa [flat_encT] at this
     conv=>whnf
     refine (join_ok (fwords n 4) [43] _ hm hcells hpos hcap (by omega) (by omega)).mono ?_
     rintro v w2 ⟨rfl, hx⟩
     replace hS := hS.no hx
     repeat' ((conv => whnf); first | refine RetC.mk ?_ | refine nzO ?_ | refine rgO ?_ | refine ixO ?_ | (first|apply brD|apply brND|apply brN|apply brI) <;> (intro))
     unfold ftext
     rw [if_neg hz]
     exact ⟨rfl, hS.ext⟩
theorem endText_ok (a p : Int) (h1 : I64 a) (h2 : I64 p) (w : World) (ht : Pow10 w) : CallC Tryz.prog 86 #[.agg #[.int .i64 a, .int .i64 p]] w fun v w' => v = .string (bs (endT a p)) ∧ Ext No w w' := by
 have e1 := Lib.itoa_length_le a h1.1 h1.2
 have e2 := Lib.itoa_length_le p h2.1 h2.2
 refine fn_intro tabOk Tryz.func86 (by kernel_rfl) rfl Tryz.ntmps86 (lbO rfl) ?_
 have hS := St.start w No
 conv=>whnf
 refine hS.new (fun b w' hb hS => ?_)
 replace hS : St w No w' [blk b 39 [.int .i64 a, .int .i64 p]] := hS
 conv=>whnf
 (refine drawS tabOk mixed [] (No) [0, 1, 4, 5, 2, 3, 6, 7, 8] (by kernel_rfl) ?_; rintro w1 rfl; replace hS := hS.drew)
 have hK := hS.ref No
 conv=>whnf
 refine hS.ldF 0 rfl rfl id ?_
 conv=>whnf
 refine hS.ldF 0 rfl rfl id ?_
 conv=>whnf
 refine (itoa_ok a h1.1 h1.2 _ (ht.no hS.ext)).mono ?_
 rintro v w2 ⟨rfl, hx⟩
 replace hS := hS.no hx
 replace hK := hK.trans hx
 refine KeepC.mk hK ?_
 conv=>whnf
 refine addS (b := [58]) (by simp; omega) ?_
 conv=>whnf
 refine (itoa_ok p h2.1 h2.2 _ (ht.no hS.ext)).mono ?_
 rintro v w3 ⟨rfl, hx⟩
 replace hS := hS.no hx
 replace hK := hK.trans hx
 refine KeepC.mk hK ?_
 conv=>whnf
 refine addS (by simp; omega) ?_
 repeat' ((conv => whnf); first | refine RetC.mk ?_ | refine nzO ?_ | refine rgO ?_ | refine ixO ?_ | (first|apply brD|apply brND|apply brN|apply brI) <;> (intro))
 exact ⟨rfl, hS.ext⟩
end Go.Proofs.YtogjajjdaoihdaaGreatDoor

namespace Go.Proofs.YtogjajjdaoihdaaGreatDoor
set_option maxRecDepth 20000
open Go Ev
theorem ptextP_ok {E : Nat → Addr} {q : Nat} (p : PktS) (w : World) (hE : Errs w E q [2, 3]) (ht : Pow10 w) (hN : NamesV w) :
   CallC Tryz.prog 43 #[.agg (encPkt p).toArray] w fun v w' => v = .tuple #[.string (bs (if p.err = 0 then p.text else [])), errV E p.err] ∧ Ext No w w' := by
 refine fn_intro tabOk Tryz.func43 (by kernel_rfl) rfl Tryz.ntmps43 (lbO rfl) ?_
 have hS := St.start w No
 conv=>whnf
 refine hS.new (fun b w' hb hS => ?_)
 replace hS : St w No w' [blk b 41 (encPkt p)] := hS
 conv=>whnf
 refine hS.laX 0 rfl rfl ?_
 conv=>whnf
 refine (pcheck_ok p _ (hE.ext hS.ext fun _ h => h.elim)).mono ?_
 rintro v w2 ⟨rfl, hx⟩
 replace hS := hS.no hx
 clear hx
 cases hpe : p.err with
 | succ j =>
   rw [if_neg (by omega)]
   repeat' ((conv => whnf); first | refine RetC.mk ?_ | refine nzO ?_ | refine rgO ?_ | refine ixO ?_ | (first|apply brD|apply brND|apply brN|apply brI) <;> (intro))
   exact ⟨rfl, hS.ext⟩
 | zero =>
   rw [if_pos rfl]
   obtain ⟨f1, f2, f3, f4, f5⟩ := err_facts hpe
   have g2 := endB_facts f2
   have g3 := endB_facts f3
   obtain ⟨pr, sa, sp, da, dp, fl⟩ := p
   dsimp only at f1 f4 f5 g2 g3
   have i1 : I64 sa := ⟨by omega, by omega⟩
   have i2 : I64 sp := ⟨by omega, by omega⟩
   have i3 : I64 da := ⟨by omega, by omega⟩
   have i4 : I64 dp := ⟨by omega, by omega⟩
   have l1 := endT_len sa sp i1 i2
   have l2 := endT_len da dp i3 i4
   unfold PktS.text
   conv=>whnf
   refine hS.ld 0 rfl rfl ?_
   conv=>whnf
   refine brD (fun h1 => ?_) (fun h1 => ?_)
   · rw [if_pos (by exact h1)]
     conv=>whnf
     (refine drawS tabOk mixed [] (No) [0, 1, 5, 6, 2, 3, 4, 7, 8, 9, 10] (by kernel_rfl) ?_; rintro w1 rfl; replace hS := hS.drew)
     have hK := hS.ref No
     conv=>whnf
     refine hS.laXF 0 rfl rfl id ?_
     conv=>whnf
     refine hS.laXF 0 rfl rfl id ?_
     conv=>whnf
     refine (endText_ok sa sp i1 i2 _ (ht.no hS.ext)).mono ?_
     rintro v w3 ⟨rfl, hx⟩
     replace hS := hS.no hx
     replace hK := hK.trans hx
     refine KeepC.mk hK ?_
     clear hx
     conv=>whnf
     refine addS (a := [117, 100, 112, 32]) (by simp; omega) ?_
     conv=>whnf
     refine addS (b := [32]) (by simp; omega) ?_
     conv=>whnf
     refine (endText_ok da dp i3 i4 _ (ht.no hS.ext)).mono ?_
     rintro v w4 ⟨rfl, hx⟩
     replace hS := hS.no hx
     replace hK := hK.trans hx
     refine KeepC.mk hK ?_
     clear hx
     conv=>whnf
     refine addS (by simp; omega) ?_
     repeat' ((conv => whnf); first | refine RetC.mk ?_ | refine nzO ?_ | refine rgO ?_ | refine ixO ?_ | (first|apply brD|apply brND|apply brN|apply brI) <;> (intro))
     exact ⟨rfl, hS.ext⟩
   · rw [if_neg (by exact h1)]
     obtain ⟨fn, rfl⟩ : ∃ n : Nat, fl = n := ⟨fl.toNat, by omega⟩
     have l3 := ftext_len (fn : Int)
     conv=>whnf
     (refine drawS tabOk mixed [] (No) [0, 1, 5, 6, 10, 11, 2, 3, 4, 7, 8, 9, 12, 13, 14, 15] (by kernel_rfl) ?_; rintro w1 rfl; replace hS := hS.drew)
     have hK := hS.ref No
     conv=>whnf
     refine hS.laXF 0 rfl rfl id ?_
     conv=>whnf
     refine hS.laXF 0 rfl rfl id ?_
     conv=>whnf
     refine hS.ldF 0 rfl rfl id ?_
     conv=>whnf
     refine (endText_ok sa sp i1 i2 _ (ht.no hS.ext)).mono ?_
     rintro v w3 ⟨rfl, hx⟩
     replace hS := hS.no hx
     replace hK := hK.trans hx
     refine KeepC.mk hK ?_
     clear hx
     conv=>whnf
     refine addS (a := [116, 99, 112, 32]) (by simp; omega) ?_
     conv=>whnf
     refine addS (b := [32]) (by simp; omega) ?_
     conv=>whnf
     refine (endText_ok da dp i3 i4 _ (ht.no hS.ext)).mono ?_
     rintro v w4 ⟨rfl, hx⟩
     replace hS := hS.no hx
     replace hK := hK.trans hx
     refine KeepC.mk hK ?_
     clear hx
     conv=>whnf
     refine addS (by simp; omega) ?_
     conv=>whnf
     refine addS (b := [32]) (by simp; omega) ?_
     conv=>whnf
     refine (pflags_ok fn (by omega) _ (hN.no hS.ext)).mono ?_
     rintro v w5 ⟨rfl, hx⟩
     replace hS := hS.no hx
     replace hK := hK.trans hx
     refine KeepC.mk hK ?_
     clear hx
     conv=>whnf
     refine addS (by simp; omega) ?_
     repeat' ((conv => whnf); first | refine RetC.mk ?_ | refine nzO ?_ | refine rgO ?_ | refine ixO ?_ | (first|apply brD|apply brND|apply brN|apply brI) <;> (intro))
     exact ⟨rfl, hS.ext⟩
def PktS.bytes (p : PktS) : List UInt8 := numB p.proto.toNat 1 ++ (numB p.sa.toNat 4 ++ numB p.sp.toNat 2) ++ (numB p.da.toNat 4 ++ numB p.dp.toNat 2) ++ numB p.flags.toNat 1
end Go.Proofs.YtogjajjdaoihdaaGreatDoor

namespace Go.Proofs.YtogjajjdaoihdaaGreatDoor
set_option maxRecDepth 20000
open Go Ev
end Go.Proofs.YtogjajjdaoihdaaGreatDoor

namespace Go.Proofs.YtogjajjdaoihdaaGreatDoor
set_option maxRecDepth 20000
open Go Ev
theorem Ev.drawB {P : Program} {τ : Tab} {N : Nat} {σ : Slots} {w : World} {b : Nat} {t : TypeId} {cs : List Value} (hτ : TabOk P τ) (hm : P.follows .mixedOrders = true) (hb : Blk w b t cs) {ops : Array Oper} {Q : Slots → World → Prop} (order : List Nat)
   (hok : (Region.noSelect ops && Nat.beq order.length ops.size && orderOk ops [] order (Array.replicate ops.size false)) = true)
   (h : ∀ w1, w1 = { w with drawn := w.drawn + 1 } → Blk w1 b t cs → evDrawR P τ N ops [] (fun w' => Ext (· = b) w1 w' ∧ Blk w' b t cs) order Q σ w1) : DrawC P τ N ops Q σ w :=
 drawR hτ hm [] (fun w1 w' => Ext (· = b) w1 w' ∧ Blk w' b t cs) order hok ⟨Ext.refl _ _, hb⟩ (by have := h _ rfl hb; rwa [evDrawR_eq] at this)
theorem Ev.laB {w1 : World} {b o n : Nat} {t : TypeId} {cs : List Value} {k : Value → Prop} (hn : Nat.ble (o + n) cs.length = true) (hk : k (.agg ((cs.drop o).take n).toArray)) : LdG (fun w' => Ext (· = b) w1 w' ∧ Blk w' b t cs) b o n k :=
 ⟨(cs.drop o).take n, by rw [List.length_take, List.length_drop]; have := Nat.le_of_ble_eq_true hn; omega, fun _ h => h.2.cells (by rw [List.length_take, List.length_drop]; have := Nat.le_of_ble_eq_true hn; rw [Nat.min_eq_left (by omega)]), hk⟩
theorem readEnd_ok (s : List UInt8) (hl : s.length ≤ 100000) (w : World) (hM : MaxL w) (hV : NumV w) (ht : Pow10 w) :
   CallC Tryz.prog 41 #[.string (bs s)] w fun v w' => (∃ x y k, v = .tuple #[.agg #[.int .i64 x, .int .i64 y], .bool k] ∧ I64 x ∧ I64 y ∧ EndR s x y k) ∧ Ext No w w' := by
 refine fn_intro tabOk Tryz.func41 (by kernel_rfl) rfl Tryz.ntmps41 (lbO rfl) ?_
 have hS := St.start w No
 conv=>whnf
 refine hS.new (fun b2 w' hb2 hS => ?_)
 obtain ⟨a, c, j, hcut, hal, hcl⟩ := cut_small s 58
 conv=>whnf
 refine (cutT_ok s 58 _ hl (hM.no hS.ext)).mono ?_
 rintro v w1 ⟨rfl, hx⟩
 replace hS := hS.no hx
 rw [hcut]
 conv=>whnf
 refine (atoi_ok a _ (by omega) (hV.no hS.ext)).mono ?_
 rintro v w2 ⟨⟨x, e1, rfl, ix, hc1⟩, hx⟩
 replace hS := hS.no hx
 conv=>whnf
 refine (atoi_ok c _ (by omega) (hV.no hS.ext)).mono ?_
 rintro v w3 ⟨⟨y, e2, rfl, iy, hc2⟩, hx⟩
 replace hS := hS.no hx
 have hxm : ∀ m, Lib.atoiAll a = .ok m → x = m := fun m h => by
   rcases hc1 with ⟨h1, _⟩ | ⟨h1, _⟩
   · rw [h1] at h
     cases h
     rfl
   · exact absurd h (h1 m)
 have hym : ∀ m, Lib.atoiAll c = .ok m → y = m := fun m h => by
   rcases hc2 with ⟨h1, _⟩ | ⟨h1, _⟩
   · rw [h1] at h
     cases h
     rfl
   · exact absurd h (h1 m)
 have hel := endT_len x y ix iy
 conv=>whnf
 refine hS.st 0 rfl (lbO rfl) rfl (fun w' hS => ?_)
 replace hS : St w No w' [blk b2 39 [.int .i64 x, .int .i64 y]] := hS
 conv=>whnf
 refine Ev.drawB tabOk mixed (hS.blk 0 rfl) [0, 1, 2, 3, 4, 5, 6, 7, 8, 10, 9, 11, 12, 13, 14] (by kernel_rfl) ?_
 rintro w4 rfl hB
 replace hS := hS.drew
 have hK := hS.ref (· = b2)
 conv=>whnf
 refine laB rfl ?_
 rcases hc1 with ⟨ha, rfl⟩ | ⟨ha, t1, u1, rfl⟩
 · rcases hc2 with ⟨hc, rfl⟩ | ⟨hc, t2, u2, rfl⟩
   · (conv => whnf)
     refine laB rfl ?_
     conv=>whnf
     refine (endText_ok x y ix iy _ (ht.no hS.ext)).mono ?_
     rintro v w5 ⟨rfl, hx⟩
     replace hS := hS.no hx
     replace hK := hK.trans hx.of_no
     refine KeepC.mk ⟨hK, hS.blk 0 rfl⟩ ?_
     conv=>whnf
     refine eqS2 ?_
     conv=>whnf
     refine hS.stK hK 0 rfl (lbO rfl) rfl rfl (fun w' hK hS => KeepC.mk ⟨hK, hS.blk 0 rfl⟩ ?_)
     conv=>whnf
     refine hS.laX 0 rfl rfl ?_
     repeat' ((conv => whnf); first | refine RetC.mk ?_ | refine nzO ?_ | refine rgO ?_ | refine ixO ?_ | (first|apply brD|apply brND|apply brN|apply brI) <;> (intro))
     exact ⟨⟨x, y, _, rfl, ix, iy, endR_of hcut hxm hym (by rw [decide_eq_true_iff]; exact ⟨fun h => ⟨⟨_, ha⟩, ⟨_, hc⟩, h⟩, fun h => h.2.2⟩)⟩, hS.ext⟩
   · (conv => whnf)
     refine hS.stK hK 0 rfl (lbO rfl) rfl rfl (fun w' hK hS => KeepC.mk ⟨hK, hS.blk 0 rfl⟩ ?_)
     conv=>whnf
     refine hS.laX 0 rfl rfl ?_
     repeat' ((conv => whnf); first | refine RetC.mk ?_ | refine nzO ?_ | refine rgO ?_ | refine ixO ?_ | (first|apply brD|apply brND|apply brN|apply brI) <;> (intro))
     exact ⟨⟨x, y, _, rfl, ix, iy, endR_of hcut hxm hym ⟨fun h => (by cases h), fun h => absurd h.2.1.choose_spec (hc _)⟩⟩, hS.ext⟩
 · (conv => whnf)
   refine hS.stK hK 0 rfl (lbO rfl) rfl rfl (fun w' hK hS => KeepC.mk ⟨hK, hS.blk 0 rfl⟩ ?_)
   conv=>whnf
   refine hS.laX 0 rfl rfl ?_
   repeat' ((conv => whnf); first | refine RetC.mk ?_ | refine nzO ?_ | refine rgO ?_ | refine ixO ?_ | (first|apply brD|apply brND|apply brN|apply brI) <;> (intro))
   exact ⟨⟨x, y, _, rfl, ix, iy, endR_of hcut hxm hym ⟨fun h => (by cases h), fun h => absurd h.1.choose_spec (ha _)⟩⟩, hS.ext⟩
theorem pktR_bad {s : List UInt8} {p : PktS} {ka kb : Bool} (key : ∀ q : PktS, q.err = 0 → q.text = s → ka = true ∧ kb = true ∧ p = q) (h : p.err ≠ 0 ∨ p.text ≠ s ∨ ka = false ∨ kb = false) : PktR s noPkt false := by
 refine ⟨fun h => (by cases h), fun _ => rfl, fun q h1 h2 => ?_⟩
 obtain ⟨g1, g2, rfl⟩ := key q h1 h2
 rcases h with h | h | h | h
 · exact absurd h1 h
 · exact absurd h2 h
 · rw [h] at g1
   cases g1
 · rw [h] at g2
   cases g2
theorem pktR_good {s : List UInt8} {p : PktS} {ka kb : Bool} (key : ∀ q : PktS, q.err = 0 → q.text = s → ka = true ∧ kb = true ∧ p = q) (h1 : p.err = 0) (h2 : p.text = s) : PktR s p true :=
 ⟨fun _ => ⟨h1, h2⟩, fun h => (by cases h), fun q g1 g2 => ⟨rfl, (key q g1 g2).2.2⟩⟩
theorem key3 {s t a b : List UInt8} {x1 y1 x2 y2 : Int} {ka kb : Bool} (hw : cutR 32 s = [t, a, b]) (ha : EndR a x1 y1 ka) (hb : EndR b x2 y2 kb) :
   ∀ q : PktS, q.err = 0 → q.text = s → ka = true ∧ kb = true ∧ (⟨1, x1, y1, x2, y2, 0⟩ : PktS) = q := fun q h1 h2 => by
 obtain ⟨f1, f2, f3, f4, f5⟩ := err_facts h1
 have hc := text_cut h1
 rw [h2, hw] at hc
 split at hc
 · rename_i hp
   simp only [List.cons.injEq, and_true] at hc
   obtain ⟨_, rfl, rfl⟩ := hc
   obtain ⟨k1, rfl, rfl⟩ := ha.2 _ _ f2 rfl
   obtain ⟨k2, rfl, rfl⟩ := hb.2 _ _ f3 rfl
   refine ⟨k1, k2, ?_⟩
   obtain ⟨pr, sa, sp, da, dp, fl⟩ := q
   dsimp only at hp f1 ⊢
   obtain rfl := hp
   obtain rfl : fl = 0 := by omega
   rfl
 · simp at hc
theorem key4 {s t a b f : List UInt8} {x1 y1 x2 y2 : Int} {ka kb : Bool} (hw : cutR 32 s = [t, a, b, f]) (ha : EndR a x1 y1 ka) (hb : EndR b x2 y2 kb) :
   ∀ q : PktS, q.err = 0 → q.text = s → ka = true ∧ kb = true ∧ (⟨2, x1, y1, x2, y2, (((flagOf f 16).getD 0 : Nat) : Int)⟩ : PktS) = q := fun q h1 h2 => by
 obtain ⟨f1, f2, f3, f4, f5⟩ := err_facts h1
 have hc := text_cut h1
 rw [h2, hw] at hc
 split at hc
 · simp at hc
 · rename_i hp
   simp only [List.cons.injEq, and_true] at hc
   obtain ⟨_, rfl, rfl, rfl⟩ := hc
   obtain ⟨k1, rfl, rfl⟩ := ha.2 _ _ f2 rfl
   obtain ⟨k2, rfl, rfl⟩ := hb.2 _ _ f3 rfl
   refine ⟨k1, k2, ?_⟩
   obtain ⟨pr, sa, sp, da, dp, fl⟩ := q
   dsimp only at hp f1 f4 f5 ⊢
   obtain ⟨fl, rfl⟩ : ∃ n : Nat, fl = n := ⟨fl.toNat, by omega⟩
   rw [flagOf_eq (n := fl) (by omega)]
   obtain rfl : pr = 2 := by omega
   rfl
theorem keyN {s : List UInt8} (h3 : (cutR 32 s).length ≠ 3) (h4 : (cutR 32 s).length ≠ 4) : PktR s noPkt false := by
 refine ⟨fun h => (by cases h), fun _ => rfl, fun q h1 h2 => ?_⟩
 have hc := text_cut h1
 rw [h2] at hc
 split at hc
 · exact absurd (by rw [hc]; rfl) h3
 · exact absurd (by rw [hc]; rfl) h4
theorem words3 {s : List UInt8} (h : (cutR 32 s).length = 3) : ∃ a b p, cutR 32 s = [a, b, p] := by
 generalize cutR 32 s = l at h
 match l, h with
 | [a, b, p], _ => exact ⟨a, b, p, rfl⟩
end Go.Proofs.YtogjajjdaoihdaaGreatDoor

namespace Go.Proofs.YtogjajjdaoihdaaGreatDoor
set_option maxRecDepth 20000
open Go Ev
theorem flag_step (f : List UInt8) (k : Nat) : (flagOf f (k + 1)).getD 0 = if ftext (k : Nat) = f then k else (flagOf f k).getD 0 := by
 show (if ftext (k : Nat) = f then some k else flagOf f k).getD 0 = _
 split <;> rfl
theorem packetRead_ok {E : Nat → Addr} {q : Nat} (s : List UInt8) (hl : s.length ≤ 100000) (w : World) (hM : MaxL w) (hV : NumV w) (ht : Pow10 w) (hN : NamesV w) (hE : Errs w E q [1, 2, 3]) :
   CallC Tryz.prog 15 #[.string (bs s)] w fun v w' => (∃ p k, v = .tuple #[.agg (encPkt p).toArray, errV E (if k = true then 0 else 1)] ∧ PktR s p k) ∧ Ext No w w' := by
 refine fn_intro tabOk Tryz.func15 (by kernel_rfl) rfl Tryz.ntmps15 (lbO rfl) ?_
 have hS := St.start w No
 conv=>whnf
 refine hS.new (fun b2 w' hb2 hS => ?_)
 replace hS : St w No w' [blk b2 41 (encPkt noPkt)] := hS
 conv=>whnf
 refine (split_ok s 32 _ hl (hM.no hS.ext)).mono ?_
 rintro v w1 ⟨⟨b, rfl, hb, hB⟩, hx⟩
 replace hS := hS.made hx (blk_local _ _ _) hB (by intro c hc; obtain rfl := List.mem_singleton.1 hc; exact ⟨hb, hB.lt⟩)
 clear hx hB hb
 have hmem : ∀ t ∈ cutR 32 s, t.length ≤ s.length := fun t h => cutR_mem_len h
 conv=>whnf
 refine brD (fun h1 => ?_) (fun h1 => ?_)
 · have hbad := keyN (s := s) (by omega) (by omega)
   conv=>whnf
   (refine drawS tabOk mixed [] ((· = b2)) [0, 1, 2, 3] (by kernel_rfl) ?_; rintro w1 rfl; replace hS := hS.drew)
   have hK := hS.ref (· = b2)
   conv=>whnf
   refine hS.ldrF (hE.at_ 1 rfl) id (fun e => Nat.ne_of_lt (Nat.lt_of_lt_of_le (cell_lt (hE.at_ 1 rfl)) hb2) e) ?_
   conv=>whnf
   refine hS.stK hK 0 rfl (lbO rfl) rfl rfl (fun w' hK hS => KeepC.mk hK ?_)
   conv=>whnf
   refine hS.laX 0 rfl rfl ?_
   repeat' ((conv => whnf); first | refine RetC.mk ?_ | refine nzO ?_ | refine rgO ?_ | refine ixO ?_ | (first|apply brD|apply brND|apply brN|apply brI) <;> (intro))
   exact ⟨⟨noPkt, false, rfl, hbad⟩, hS.ext⟩
 conv=>whnf
 refine brD (fun h2 => ?_) (fun h2 => ?_)
 · have hbad := keyN (s := s) (by omega) (by omega)
   conv=>whnf
   (refine drawS tabOk mixed [] ((· = b2)) [0, 1, 2, 3] (by kernel_rfl) ?_; rintro w1 rfl; replace hS := hS.drew)
   have hK := hS.ref (· = b2)
   conv=>whnf
   refine hS.ldrF (hE.at_ 1 rfl) id (fun e => Nat.ne_of_lt (Nat.lt_of_lt_of_le (cell_lt (hE.at_ 1 rfl)) hb2) e) ?_
   conv=>whnf
   refine hS.stK hK 0 rfl (lbO rfl) rfl rfl (fun w' hK hS => KeepC.mk hK ?_)
   conv=>whnf
   refine hS.laX 0 rfl rfl ?_
   repeat' ((conv => whnf); first | refine RetC.mk ?_ | refine nzO ?_ | refine rgO ?_ | refine ixO ?_ | (first|apply brD|apply brND|apply brN|apply brI) <;> (intro))
   exact ⟨⟨noPkt, false, rfl, hbad⟩, hS.ext⟩
 by_cases h4 : (cutR 32 s).length = 4
 · obtain ⟨t, a1, a2, f, hw⟩ := words4 h4
   rw [hw] at hS hmem ⊢
   have hl4 : ([t, a1, a2, f] : List (List UInt8)).length = 4 := rfl
   have m1 := hmem a1 (by simp)
   have m2 := hmem a2 (by simp)
   replace hS : St w No w1 [blk b2 41 (encPkt noPkt), blk b 9 [.string (bs t), .string (bs a1), .string (bs a2), .string (bs f)]] := hS
   conv=>whnf
   refine ixO ?_
   conv=>whnf
   refine hS.ld 1 rfl rfl ?_
   conv=>whnf
   refine (readEnd_ok a1 (by omega) _ (hM.no hS.ext) (hV.no hS.ext) (ht.no hS.ext)).mono ?_
   rintro v w3 ⟨⟨x1, y1, ka, rfl, ix1, iy1, hra⟩, hx⟩
   replace hS := hS.no hx
   clear hx
   conv=>whnf
   refine hS.new (fun b5 w' hb5 hS => ?_)
   conv=>whnf
   refine hS.st 2 rfl (lbO rfl) rfl (fun w' hS => ?_)
   conv=>whnf
   refine ixO ?_
   conv=>whnf
   refine hS.ld 1 rfl rfl ?_
   conv=>whnf
   refine (readEnd_ok a2 (by omega) _ (hM.no hS.ext) (hV.no hS.ext) (ht.no hS.ext)).mono ?_
   rintro v w4 ⟨⟨x2, y2, kb, rfl, ix2, iy2, hrb⟩, hx⟩
   replace hS := hS.no hx
   clear hx
   conv=>whnf
   refine hS.new (fun b7 w' hb7 hS => ?_)
   conv=>whnf
   refine hS.st 3 rfl (lbO rfl) rfl (fun w' hS => ?_)
   conv=>whnf
   refine hS.laX 2 rfl rfl ?_
   conv=>whnf
   refine hS.laX 3 rfl rfl ?_
   conv=>whnf
   refine hS.new (fun b9 w' hb9 hS => ?_)
   conv=>whnf
   refine hS.st 4 rfl (lbO rfl) rfl (fun w' hS => ?_)
   replace hS := hS.sel [0, 4, 1] (by decide)
   conv=>whnf
   refine hS.st 1 rfl (lbO rfl) rfl (fun w' hS => ?_)
   conv=>whnf
   refine loopR tabOk (fun σ w' q => ∃ (k : Nat), σ = [(46, .int .i64 (k : Int)), (9, .pointer (some ⟨b9, 0, none⟩)), (8, .bool kb), (6, .bool ka), (4, .slice (some ⟨b, 0, none⟩) 4 4), (2, .pointer (some ⟨b2, 0, none⟩)), (0, .string (bs s))] ∧ q = 16 - k ∧ k ≤ 16 ∧ St w No w' [blk b2 41 (encPkt noPkt), blk b9 41 (encPkt ⟨2, x1, y1, x2, y2, (((flagOf f k).getD 0 : Nat) : Int)⟩), blk b 9 [.string (bs t), .string (bs a1), .string (bs a2), .string (bs f)]])
     (σ' := [(46, .int .i64 ((0 : Nat) : Int)), (9, .pointer (some ⟨b9, 0, none⟩)), (8, .bool kb), (6, .bool ka), (4, .slice (some ⟨b, 0, none⟩) 4 4), (2, .pointer (some ⟨b2, 0, none⟩)), (0, .string (bs s))]) (n := 16) ⟨rfl, rfl, rfl, rfl, rfl, rfl, rfl, trivial⟩ ⟨0, rfl, rfl, Nat.zero_le _, hS⟩ ?_
   clear hS
   rintro _ w5 q ⟨k, rfl, rfl, hk, hS⟩
   conv=>whnf
   refine brD (fun h3 => ?_) (fun h3 => ?_)
   · have hst := flag_step f k
     conv=>whnf
     (refine drawS tabOk mixed [] (No) [0, 2, 3, 4, 1, 5] (by kernel_rfl) ?_; rintro w1 rfl; replace hS := hS.drew)
     have hK := hS.ref No
     conv=>whnf
     refine ixO ?_
     conv=>whnf
     refine hS.ldF 2 rfl rfl id ?_
     conv=>whnf
     refine (pflags_ok k (by omega) _ (hN.no hS.ext)).mono ?_
     rintro v w6 ⟨rfl, hx⟩
     replace hS := hS.no hx
     refine KeepC.mk (hK.trans hx) ?_
     clear hx hK
     conv=>whnf
     refine eqS2 ?_
     conv=>whnf
     refine brD (fun h5 => ?_) (fun h5 => ?_)
     · rw [if_pos h5] at hst
       conv=>whnf
       refine hS.st 1 rfl (lbO rfl) rfl (fun w' hS => ?_)
       conv=>whnf
       refine rgO ?_
       conv=>whnf
       refine LoopE.mk ⟨_, [(46, .int .i64 ((k + 1 : Nat) : Int)), (9, _), (8, _), (6, _), (4, _), (2, _), (0, _)], ?_, ⟨rfl, rfl, rfl, rfl, rfl, rfl, rfl, trivial⟩, ⟨k + 1, rfl, rfl, by omega, by rw [hst]; exact hS⟩⟩
       omega
     · rw [if_neg h5] at hst
       conv=>whnf
       refine rgO ?_
       conv=>whnf
       refine LoopE.mk ⟨_, [(46, .int .i64 ((k + 1 : Nat) : Int)), (9, _), (8, _), (6, _), (4, _), (2, _), (0, _)], ?_, ⟨rfl, rfl, rfl, rfl, rfl, rfl, rfl, trivial⟩, ⟨k + 1, rfl, rfl, by omega, by rw [hst]; exact hS⟩⟩
       omega
   · obtain rfl : k = 16 := by omega
     have hkey := key4 hw hra hrb
     generalize hp : (⟨_, _, _, _, _, _⟩ : PktS) = p at hkey hS
     have hS : St w No _ (blk b2 41 (encPkt noPkt) :: blk b9 41 (encPkt p) :: _) := hS
     conv=>whnf
     refine hS.laX 1 rfl rfl ?_
     conv=>whnf
     refine (ptextP_ok p _ ((hE.sub rfl).ext hS.ext fun _ h => h.elim) (ht.no hS.ext) (hN.no hS.ext)).mono ?_
     rintro v w8 ⟨rfl, hx⟩
     replace hS := hS.no hx
     clear hx
     cases hpe : p.err with
     | succ j =>
       have hbad := pktR_bad hkey (.inl (by omega))
       rw [if_neg (by omega)]
       conv=>whnf
       (refine drawS tabOk mixed [] ((· = b2)) [0, 1, 2, 3] (by kernel_rfl) ?_; rintro w1 rfl; replace hS := hS.drew)
       have hK := hS.ref (· = b2)
       conv=>whnf
       refine hS.ldrF (hE.at_ 1 rfl) id (fun e => Nat.ne_of_lt (Nat.lt_of_lt_of_le (cell_lt (hE.at_ 1 rfl)) hb2) e) ?_
       conv=>whnf
       refine hS.stK hK 0 rfl (lbO rfl) rfl rfl (fun w' hK hS => KeepC.mk hK ?_)
       conv=>whnf
       refine hS.laX 0 rfl rfl ?_
       repeat' ((conv => whnf); first | refine RetC.mk ?_ | refine nzO ?_ | refine rgO ?_ | refine ixO ?_ | (first|apply brD|apply brND|apply brN|apply brI) <;> (intro))
       exact ⟨⟨noPkt, false, rfl, hbad⟩, hS.ext⟩
     | zero =>
       rw [if_pos rfl]
       conv=>whnf
       refine neS2 ?_
       conv=>whnf
       refine brND (fun h1 => ?_) (fun h1 => ?_)
       · have hbad := pktR_bad hkey (.inr (.inl h1))
         conv=>whnf
         (refine drawS tabOk mixed [] ((· = b2)) [0, 1, 2, 3] (by kernel_rfl) ?_; rintro w1 rfl; replace hS := hS.drew)
         have hK := hS.ref (· = b2)
         conv=>whnf
         refine hS.ldrF (hE.at_ 1 rfl) id (fun e => Nat.ne_of_lt (Nat.lt_of_lt_of_le (cell_lt (hE.at_ 1 rfl)) hb2) e) ?_
         conv=>whnf
         refine hS.stK hK 0 rfl (lbO rfl) rfl rfl (fun w' hK hS => KeepC.mk hK ?_)
         conv=>whnf
         refine hS.laX 0 rfl rfl ?_
         repeat' ((conv => whnf); first | refine RetC.mk ?_ | refine nzO ?_ | refine rgO ?_ | refine ixO ?_ | (first|apply brD|apply brND|apply brN|apply brI) <;> (intro))
         exact ⟨⟨noPkt, false, rfl, hbad⟩, hS.ext⟩
       cases ka with
       | false =>
         have hbad := pktR_bad hkey (.inr (.inr (.inl rfl)))
         conv=>whnf
         (refine drawS tabOk mixed [] ((· = b2)) [0, 1, 2, 3] (by kernel_rfl) ?_; rintro w1 rfl; replace hS := hS.drew)
         have hK := hS.ref (· = b2)
         conv=>whnf
         refine hS.ldrF (hE.at_ 1 rfl) id (fun e => Nat.ne_of_lt (Nat.lt_of_lt_of_le (cell_lt (hE.at_ 1 rfl)) hb2) e) ?_
         conv=>whnf
         refine hS.stK hK 0 rfl (lbO rfl) rfl rfl (fun w' hK hS => KeepC.mk hK ?_)
         conv=>whnf
         refine hS.laX 0 rfl rfl ?_
         repeat' ((conv => whnf); first | refine RetC.mk ?_ | refine nzO ?_ | refine rgO ?_ | refine ixO ?_ | (first|apply brD|apply brND|apply brN|apply brI) <;> (intro))
         exact ⟨⟨noPkt, false, rfl, hbad⟩, hS.ext⟩
       | true =>
         cases kb with
         | false =>
           have hbad := pktR_bad hkey (.inr (.inr (.inr rfl)))
           conv=>whnf
           (refine drawS tabOk mixed [] ((· = b2)) [0, 1, 2, 3] (by kernel_rfl) ?_; rintro w1 rfl; replace hS := hS.drew)
           have hK := hS.ref (· = b2)
           conv=>whnf
           refine hS.ldrF (hE.at_ 1 rfl) id (fun e => Nat.ne_of_lt (Nat.lt_of_lt_of_le (cell_lt (hE.at_ 1 rfl)) hb2) e) ?_
           conv=>whnf
           refine hS.stK hK 0 rfl (lbO rfl) rfl rfl (fun w' hK hS => KeepC.mk hK ?_)
           conv=>whnf
           refine hS.laX 0 rfl rfl ?_
           repeat' ((conv => whnf); first | refine RetC.mk ?_ | refine nzO ?_ | refine rgO ?_ | refine ixO ?_ | (first|apply brD|apply brND|apply brN|apply brI) <;> (intro))
           exact ⟨⟨noPkt, false, rfl, hbad⟩, hS.ext⟩
         | true =>
           conv=>whnf
           refine hS.laX 1 rfl rfl ?_
           conv=>whnf
           refine hS.st 0 rfl (lbO rfl) rfl (fun w' hS => ?_)
           conv=>whnf
           refine hS.laX 0 rfl rfl ?_
           repeat' ((conv => whnf); first | refine RetC.mk ?_ | refine nzO ?_ | refine rgO ?_ | refine ixO ?_ | (first|apply brD|apply brND|apply brN|apply brI) <;> (intro))
           exact ⟨⟨p, true, rfl, pktR_good hkey hpe h1⟩, hS.ext⟩
 · obtain ⟨t, a1, a2, hw⟩ := words3 (s := s) (by omega)
   rw [hw] at hS hmem ⊢
   have hl3 : ([t, a1, a2] : List (List UInt8)).length = 3 := rfl
   have m1 := hmem a1 (by simp)
   have m2 := hmem a2 (by simp)
   replace hS : St w No w1 [blk b2 41 (encPkt noPkt), blk b 9 [.string (bs t), .string (bs a1), .string (bs a2)]] := hS
   conv=>whnf
   refine ixO ?_
   conv=>whnf
   refine hS.ld 1 rfl rfl ?_
   conv=>whnf
   refine (readEnd_ok a1 (by omega) _ (hM.no hS.ext) (hV.no hS.ext) (ht.no hS.ext)).mono ?_
   rintro v w3 ⟨⟨x1, y1, ka, rfl, ix1, iy1, hra⟩, hx⟩
   replace hS := hS.no hx
   clear hx
   conv=>whnf
   refine hS.new (fun b5 w' hb5 hS => ?_)
   conv=>whnf
   refine hS.st 2 rfl (lbO rfl) rfl (fun w' hS => ?_)
   conv=>whnf
   refine ixO ?_
   conv=>whnf
   refine hS.ld 1 rfl rfl ?_
   conv=>whnf
   refine (readEnd_ok a2 (by omega) _ (hM.no hS.ext) (hV.no hS.ext) (ht.no hS.ext)).mono ?_
   rintro v w4 ⟨⟨x2, y2, kb, rfl, ix2, iy2, hrb⟩, hx⟩
   replace hS := hS.no hx
   clear hx
   conv=>whnf
   refine hS.new (fun b7 w' hb7 hS => ?_)
   conv=>whnf
   refine hS.st 3 rfl (lbO rfl) rfl (fun w' hS => ?_)
   conv=>whnf
   refine hS.laX 2 rfl rfl ?_
   conv=>whnf
   refine hS.laX 3 rfl rfl ?_
   conv=>whnf
   refine hS.new (fun b9 w' hb9 hS => ?_)
   conv=>whnf
   refine hS.st 4 rfl (lbO rfl) rfl (fun w' hS => ?_)
   replace hS := hS.sel [0, 4, 1] (by decide)
   replace hS : St w No w' [blk b2 41 (encPkt noPkt), blk b9 41 (encPkt ⟨1, x1, y1, x2, y2, 0⟩), blk b 9 [.string (bs t), .string (bs a1), .string (bs a2)]] := hS
   have hkey := key3 hw hra hrb
   generalize hp : (⟨_, _, _, _, _, _⟩ : PktS) = p at hkey hS
   have hS : St w No _ (blk b2 41 (encPkt noPkt) :: blk b9 41 (encPkt p) :: _) := hS
   conv=>whnf
   refine hS.laX 1 rfl rfl ?_
   conv=>whnf
   refine (ptextP_ok p _ ((hE.sub rfl).ext hS.ext fun _ h => h.elim) (ht.no hS.ext) (hN.no hS.ext)).mono ?_
   rintro v w8 ⟨rfl, hx⟩
   replace hS := hS.no hx
   clear hx
   cases hpe : p.err with
   | succ j =>
     have hbad := pktR_bad hkey (.inl (by omega))
     rw [if_neg (by omega)]
     conv=>whnf
     (refine drawS tabOk mixed [] ((· = b2)) [0, 1, 2, 3] (by kernel_rfl) ?_; rintro w1 rfl; replace hS := hS.drew)
     have hK := hS.ref (· = b2)
     conv=>whnf
     refine hS.ldrF (hE.at_ 1 rfl) id (fun e => Nat.ne_of_lt (Nat.lt_of_lt_of_le (cell_lt (hE.at_ 1 rfl)) hb2) e) ?_
     conv=>whnf
     refine hS.stK hK 0 rfl (lbO rfl) rfl rfl (fun w' hK hS => KeepC.mk hK ?_)
     conv=>whnf
     refine hS.laX 0 rfl rfl ?_
     repeat' ((conv => whnf); first | refine RetC.mk ?_ | refine nzO ?_ | refine rgO ?_ | refine ixO ?_ | (first|apply brD|apply brND|apply brN|apply brI) <;> (intro))
     exact ⟨⟨noPkt, false, rfl, hbad⟩, hS.ext⟩
   | zero =>
     rw [if_pos rfl]
     conv=>whnf
     refine neS2 ?_
     conv=>whnf
     refine brND (fun h1 => ?_) (fun h1 => ?_)
     · have hbad := pktR_bad hkey (.inr (.inl h1))
       conv=>whnf
       (refine drawS tabOk mixed [] ((· = b2)) [0, 1, 2, 3] (by kernel_rfl) ?_; rintro w1 rfl; replace hS := hS.drew)
       have hK := hS.ref (· = b2)
       conv=>whnf
       refine hS.ldrF (hE.at_ 1 rfl) id (fun e => Nat.ne_of_lt (Nat.lt_of_lt_of_le (cell_lt (hE.at_ 1 rfl)) hb2) e) ?_
       conv=>whnf
       refine hS.stK hK 0 rfl (lbO rfl) rfl rfl (fun w' hK hS => KeepC.mk hK ?_)
       conv=>whnf
       refine hS.laX 0 rfl rfl ?_
       repeat' ((conv => whnf); first | refine RetC.mk ?_ | refine nzO ?_ | refine rgO ?_ | refine ixO ?_ | (first|apply brD|apply brND|apply brN|apply brI) <;> (intro))
       exact ⟨⟨noPkt, false, rfl, hbad⟩, hS.ext⟩
     cases ka with
     | false =>
       have hbad := pktR_bad hkey (.inr (.inr (.inl rfl)))
       conv=>whnf
       (refine drawS tabOk mixed [] ((· = b2)) [0, 1, 2, 3] (by kernel_rfl) ?_; rintro w1 rfl; replace hS := hS.drew)
       have hK := hS.ref (· = b2)
       conv=>whnf
       refine hS.ldrF (hE.at_ 1 rfl) id (fun e => Nat.ne_of_lt (Nat.lt_of_lt_of_le (cell_lt (hE.at_ 1 rfl)) hb2) e) ?_
       conv=>whnf
       refine hS.stK hK 0 rfl (lbO rfl) rfl rfl (fun w' hK hS => KeepC.mk hK ?_)
       conv=>whnf
       refine hS.laX 0 rfl rfl ?_
       repeat' ((conv => whnf); first | refine RetC.mk ?_ | refine nzO ?_ | refine rgO ?_ | refine ixO ?_ | (first|apply brD|apply brND|apply brN|apply brI) <;> (intro))
       exact ⟨⟨noPkt, false, rfl, hbad⟩, hS.ext⟩
     | true =>
       cases kb with
       | false =>
         have hbad := pktR_bad hkey (.inr (.inr (.inr rfl)))
         conv=>whnf
         (refine drawS tabOk mixed [] ((· = b2)) [0, 1, 2, 3] (by kernel_rfl) ?_; rintro w1 rfl; replace hS := hS.drew)
         have hK := hS.ref (· = b2)
         conv=>whnf
         refine hS.ldrF (hE.at_ 1 rfl) id (fun e => Nat.ne_of_lt (Nat.lt_of_lt_of_le (cell_lt (hE.at_ 1 rfl)) hb2) e) ?_
         conv=>whnf
         refine hS.stK hK 0 rfl (lbO rfl) rfl rfl (fun w' hK hS => KeepC.mk hK ?_)
         conv=>whnf
         refine hS.laX 0 rfl rfl ?_
         repeat' ((conv => whnf); first | refine RetC.mk ?_ | refine nzO ?_ | refine rgO ?_ | refine ixO ?_ | (first|apply brD|apply brND|apply brN|apply brI) <;> (intro))
         exact ⟨⟨noPkt, false, rfl, hbad⟩, hS.ext⟩
       | true =>
         conv=>whnf
         refine hS.laX 1 rfl rfl ?_
         conv=>whnf
         refine hS.st 0 rfl (lbO rfl) rfl (fun w' hS => ?_)
         conv=>whnf
         refine hS.laX 0 rfl rfl ?_
         repeat' ((conv => whnf); first | refine RetC.mk ?_ | refine nzO ?_ | refine rgO ?_ | refine ixO ?_ | (first|apply brD|apply brND|apply brN|apply brI) <;> (intro))
         exact ⟨⟨p, true, rfl, pktR_good hkey hpe h1⟩, hS.ext⟩
end Go.Proofs.YtogjajjdaoihdaaGreatDoor

namespace Go.Proofs.YtogjajjdaoihdaaGreatDoor
set_option maxRecDepth 20000
open Go Ev
theorem decimalZ_ok (n : Int) (hn : I64 n) (w : World) : CallC Tryz.prog 46 #[.int .i64 n] w fun v w' => v = .string (bs (Lib.itoa n)) ∧ Ext No w w' := by
 obtain ⟨h1, h2⟩ := hn
 have he : Lib.itoa n = if n < 0 then 45 :: Lib.decDigits n.natAbs else Lib.decDigits n.toNat := rfl
 have hl := Lib.itoa_length_le n h1 h2
 refine fn_intro tabOk Tryz.func46 (by kernel_rfl) rfl Tryz.ntmps46 (lbO rfl) ?_
 have hS := St.start w No
 conv=>whnf
 refine brD (fun h => ?_) (fun h => ?_)
 · obtain ⟨m, rfl⟩ : ∃ m : Nat, n = -(m : Int) := ⟨(-n).toNat, by omega⟩
   rw [if_pos (by omega), show (-(m : Int)).natAbs = m by omega] at he
   conv=>whnf
   refine (below_ok 18 m (by omega) (by omega) _).mono ?_
   rintro v w1 ⟨rfl, hx⟩
   replace hS := hS.no hx
   rw [he, List.length_cons] at hl
   conv=>whnf
   refine addS (a := [45]) (by simp; omega) ?_
   repeat' ((conv => whnf); first | refine RetC.mk ?_ | refine nzO ?_ | refine rgO ?_ | refine ixO ?_ | (first|apply brD|apply brND|apply brN|apply brI) <;> (intro))
   rw [he]
   exact ⟨rfl, hS.ext⟩
 · obtain ⟨m, rfl⟩ : ∃ m : Nat, n = m := ⟨n.toNat, by omega⟩
   rw [if_neg (by omega), Int.toNat_natCast] at he
   conv=>whnf
   refine rgO ?_
   rw [show (0 : Int) - (m : Int) = -(m : Int) by omega]
   conv=>whnf
   refine (below_ok 18 m (by omega) (by omega) _).mono ?_
   rintro v w1 ⟨rfl, hx⟩
   replace hS := hS.no hx
   repeat' ((conv => whnf); first | refine RetC.mk ?_ | refine nzO ?_ | refine rgO ?_ | refine ixO ?_ | (first|apply brD|apply brND|apply brN|apply brI) <;> (intro))
   rw [he]
   exact ⟨rfl, hS.ext⟩
theorem join_snoc (w : List UInt8) (sep : List UInt8) : ∀ l : List (List UInt8), l ≠ [] → Lib.join (l ++ [w]) sep = Lib.join l sep ++ sep ++ w
 | [], h => absurd rfl h
 | [x], _ => by
   rw [List.singleton_append, join_cc, Lib.join_one, Lib.join_one]
   simp
 | x :: y :: r, _ => by
   have ih := join_snoc w sep (y :: r) (by simp)
   rw [List.cons_append, List.cons_append, join_cc, join_cc, ← List.cons_append, ih]
   simp
theorem fjoin_nil (n : Int) {k : Nat} (hk : k ≤ 4) : Lib.join (fwords n k) [43] = [] ↔ fwords n k = [] := by
 constructor
 · intro h
   cases hw : fwords n k with
   | nil => rfl
   | cons w ws =>
     exfalso
     have h3 := (fwords_mem hk (show w ∈ fwords n k by rw [hw]; exact List.mem_cons_self)).1
     have hm := join_mem_len (sep := [43]) (fwords n k) (show w ∈ fwords n k by rw [hw]; exact List.mem_cons_self)
     rw [h, List.length_nil] at hm
     omega
 · intro h
   rw [h]
   rfl
theorem tdiv_rng {n : Int} (hn : I64 n) (m : Nat) : -9223372036854775808 ≤ n.tdiv (m : Int) ∧ n.tdiv (m : Int) ≤ 9223372036854775807 := by
 obtain ⟨h1, h2⟩ := hn
 rcases Int.le_total 0 n with h | h
 · rw [Int.tdiv_eq_ediv_of_nonneg h]
   have := Int.ediv_le_self (a := n) (m : Int) h
   have := Int.ediv_nonneg h (Int.natCast_nonneg m)
   omega
 · obtain ⟨j, rfl⟩ : ∃ j : Nat, n = -(j : Int) := ⟨(-n).toNat, by omega⟩
   rw [Int.neg_tdiv, Int.tdiv_eq_ediv_of_nonneg (Int.natCast_nonneg j)]
   have := Int.ediv_le_self (a := (j : Int)) (m : Int) (Int.natCast_nonneg j)
   have := Int.ediv_nonneg (Int.natCast_nonneg j) (Int.natCast_nonneg m)
   omega
theorem flagsText_ok (n : Int) (hn : I64 n) (w : World) : CallC Tryz.prog 89 #[.int .i64 n] w fun v w' => v = .string (bs (ftext n)) ∧ Ext No w w' := by
 refine fn_intro tabOk Tryz.func89 (by kernel_rfl) rfl Tryz.ntmps89 (lbO rfl) ?_
 have hS := St.start w No
 conv=>whnf
 refine hS.lit (cs := fnames.map fun l => .string (bs l)) Tryz.underlying22 (sz := 1) (by kernel_rfl) (z := .string (bs [])) (by kernel_rfl) rfl rfl (by rfl) (fun bl w' hbl hS => ?_)
 conv=>whnf
 refine loopR tabOk (fun σ w' q => ∃ (k : Nat), σ = [(6, .int .i64 (k : Int)), (5, .int .i64 ((2 ^ k : Nat) : Int)), (4, .string (bs (Lib.join (fwords n k) [43]))), (3, .slice (some ⟨bl, 0, none⟩) 4 4), (0, .int .i64 n)] ∧ q = 4 - k ∧ k ≤ 4 ∧ St w No w' [blk bl 9 (fnames.map fun l => .string (bs l))])
   (σ' := [(6, .int .i64 ((0 : Nat) : Int)), (5, .int .i64 ((2 ^ 0 : Nat) : Int)), (4, .string (bs [])), (3, .slice (some ⟨bl, 0, none⟩) 4 4), (0, .int .i64 n)]) (n := 4) ⟨rfl, rfl, rfl, rfl, rfl, trivial⟩ ⟨0, rfl, rfl, Nat.zero_le _, hS⟩ ?_
 clear hS
 rintro _ w1 q ⟨k, rfl, rfl, hk, hS⟩
 have hjl := fjoin_len n hk
 have hjn := fjoin_nil n hk
 conv=>whnf
 refine brD (fun h3 => ?_) (fun h3 => ?_)
 · have hk4 : k < 4 := by omega
   have hst := fwords_step n k
   have hjl1 := fjoin_len n (show k + 1 ≤ 4 by omega)
   have h2k : 2 ^ k ≤ 2 ^ 3 ∧ 1 ≤ 2 ^ k := ⟨Nat.pow_le_pow_right (by decide) (by omega), Nat.one_le_pow _ _ (by decide)⟩
   have h2s : 2 ^ (k + 1) = 2 * 2 ^ k := by rw [Nat.pow_succ, Nat.mul_comm]
   obtain ⟨t1, t2⟩ := tdiv_rng hn (2 ^ k)
   have hfb : ((n.tdiv ((2 ^ k : Nat) : Int)).tmod 2 == 1) = fbit n k := by
     unfold fbit
     rw [Bool.eq_iff_iff, beq_iff_eq, decide_eq_true_iff]
   have hat : (fnames.map fun l => Value.string (bs l))[0 + k * 1]? = some (.string (bs (fnames.getD k []))) := by
     rw [Nat.zero_add, Nat.mul_one, List.getElem?_map, List.getD_eq_getElem?_getD, List.getElem?_eq_getElem (show k < fnames.length from hk4)]
     rfl
   conv=>whnf
   refine NzC.mk (by omega) ?_
   refine RngC.mk t1 t2 ?_
   conv=>whnf
   refine nzO ?_
   conv=>whnf
   rw [hfb]
   refine brI (fun h4 => ?_) (fun h4 => ?_)
   · rw [if_pos h4] at hst
     conv=>whnf
     refine neS2 ?_
     conv=>whnf
     refine brND (fun h5 => ?_) (fun h5 => ?_)
     · have hne : fwords n k ≠ [] := fun e => h5 (hjn.2 e)
       have hj : Lib.join (fwords n (k + 1)) [43] = Lib.join (fwords n k) [43] ++ [43] ++ fnames.getD k [] := by rw [hst, join_snoc _ _ _ hne]
       rw [hj] at hjl1
       simp only [List.length_append] at hjl1
       conv=>whnf
       refine addS (b := [43]) (by simp; omega) ?_
       conv=>whnf
       refine ixO ?_
       conv=>whnf
       refine hS.ld 0 rfl hat ?_
       conv=>whnf
       refine addS (by simp only [List.length_append]; omega) ?_
       rw [← hj]
       conv=>whnf
       refine rgO ?_
       conv=>whnf
       refine rgO ?_
       conv=>whnf
       refine LoopE.mk ⟨_, [(6, .int .i64 ((k + 1 : Nat) : Int)), (5, .int .i64 ((2 ^ (k + 1) : Nat) : Int)), (4, _), (3, _), (0, _)], ?_, ⟨rfl, by rw [h2s, Int.natCast_mul]; rfl, rfl, rfl, rfl, trivial⟩, ⟨k + 1, rfl, rfl, by omega, hS⟩⟩
       omega
     · have hnil : fwords n k = [] := hjn.1 h5
       have hj : Lib.join (fwords n (k + 1)) [43] = fnames.getD k [] := by rw [hst, hnil, List.nil_append, Lib.join_one]
       have h5 : Lib.join (fwords n k) [43] = [] := h5
       rw [h5]
       rw [hj] at hjl1
       conv=>whnf
       refine ixO ?_
       conv=>whnf
       refine hS.ld 0 rfl hat ?_
       conv=>whnf
       refine addS (a := []) (by simp only [List.length_nil]; omega) ?_
       rw [List.nil_append, ← hj]
       conv=>whnf
       refine rgO ?_
       conv=>whnf
       refine rgO ?_
       conv=>whnf
       refine LoopE.mk ⟨_, [(6, .int .i64 ((k + 1 : Nat) : Int)), (5, .int .i64 ((2 ^ (k + 1) : Nat) : Int)), (4, _), (3, _), (0, _)], ?_, ⟨rfl, by rw [h2s, Int.natCast_mul]; rfl, rfl, rfl, rfl, trivial⟩, ⟨k + 1, rfl, rfl, by omega, hS⟩⟩
       omega
   · rw [if_neg (by rw [h4]; decide), List.append_nil] at hst
     rw [← hst]
     conv=>whnf
     refine rgO ?_
     conv=>whnf
     refine rgO ?_
     conv=>whnf
     refine LoopE.mk ⟨_, [(6, .int .i64 ((k + 1 : Nat) : Int)), (5, .int .i64 ((2 ^ (k + 1) : Nat) : Int)), (4, _), (3, _), (0, _)], ?_, ⟨rfl, by rw [h2s, Int.natCast_mul]; rfl, rfl, rfl, rfl, trivial⟩, ⟨k + 1, rfl, rfl, by omega, hS⟩⟩
     omega
 · obtain rfl : k = 4 := by omega
   unfold ftext
   conv=>whnf
   refine eqS2 ?_
   conv=>whnf
   refine brD (fun h5 => ?_) (fun h5 => ?_)
   · rw [if_pos (hjn.1 h5)]
     repeat' ((conv => whnf); first | refine RetC.mk ?_ | refine nzO ?_ | refine rgO ?_ | refine ixO ?_ | (first|apply brD|apply brND|apply brN|apply brI) <;> (intro))
     exact ⟨rfl, hS.ext⟩
   · rw [if_neg (fun e => h5 (hjn.2 e))]
     repeat' ((conv => whnf); first | refine RetC.mk ?_ | refine nzO ?_ | refine rgO ?_ | refine ixO ?_ | (first|apply brD|apply brND|apply brN|apply brI) <;> (intro))
     exact ⟨rfl, hS.ext⟩
def PktS.IP (p : PktS) : Prop := I64 p.proto ∧ I64 p.sa ∧ I64 p.sp ∧ I64 p.da ∧ I64 p.dp ∧ I64 p.flags
theorem packetText_ok (p : PktS) (hp : p.IP) (w : World) : CallC Tryz.prog 44 #[.agg (encPkt p).toArray] w fun v w' => v = .string (bs p.text) ∧ Ext No w w' := by
 obtain ⟨pr, sa, sp, da, dp, fl⟩ := p
 obtain ⟨i0, i1, i2, i3, i4, i5⟩ := hp
 dsimp only at i0 i1 i2 i3 i4 i5
 have e1 := Lib.itoa_length_le sa i1.1 i1.2
 have e2 := Lib.itoa_length_le sp i2.1 i2.2
 have e3 := Lib.itoa_length_le da i3.1 i3.2
 have e4 := Lib.itoa_length_le dp i4.1 i4.2
 have e5 := ftext_len fl
 unfold PktS.text endT
 refine fn_intro tabOk Tryz.func44 (by kernel_rfl) rfl Tryz.ntmps44 (lbO rfl) ?_
 have hS := St.start w No
 conv=>whnf
 refine hS.new (fun b w' hb hS => ?_)
 replace hS : St w No w' [blk b 41 (encPkt ⟨pr, sa, sp, da, dp, fl⟩)] := hS
 conv=>whnf
 (refine drawS tabOk mixed [] (No) [0, 1, 2, 5, 6, 7, 11, 12, 13, 17, 18, 19, 3, 4, 8, 9, 10, 14, 15, 16, 20, 21, 22] (by kernel_rfl) ?_; rintro w1 rfl; replace hS := hS.drew)
 have hK := hS.ref No
 conv=>whnf
 refine hS.ldF 0 rfl rfl id ?_
 conv=>whnf
 refine hS.ldF 0 rfl rfl id ?_
 conv=>whnf
 refine hS.ldF 0 rfl rfl id ?_
 conv=>whnf
 refine hS.ldF 0 rfl rfl id ?_
 conv=>whnf
 refine (decimalZ_ok sa i1 _).mono ?_
 rintro v w3 ⟨rfl, hx⟩
 replace hS := hS.no hx
 replace hK := hK.trans hx
 refine KeepC.mk hK ?_
 clear hx
 conv=>whnf
 refine addS (b := [58]) (by simp; omega) ?_
 conv=>whnf
 refine (decimalZ_ok sp i2 _).mono ?_
 rintro v w3 ⟨rfl, hx⟩
 replace hS := hS.no hx
 replace hK := hK.trans hx
 refine KeepC.mk hK ?_
 clear hx
 conv=>whnf
 refine addS (by simp; omega) ?_
 conv=>whnf
 refine addS (b := [32]) (by simp; omega) ?_
 conv=>whnf
 refine (decimalZ_ok da i3 _).mono ?_
 rintro v w3 ⟨rfl, hx⟩
 replace hS := hS.no hx
 replace hK := hK.trans hx
 refine KeepC.mk hK ?_
 clear hx
 conv=>whnf
 refine addS (by simp; omega) ?_
 conv=>whnf
 refine addS (b := [58]) (by simp; omega) ?_
 conv=>whnf
 refine (decimalZ_ok dp i4 _).mono ?_
 rintro v w3 ⟨rfl, hx⟩
 replace hS := hS.no hx
 replace hK := hK.trans hx
 refine KeepC.mk hK ?_
 clear hx
 conv=>whnf
 refine addS (by simp; omega) ?_
 conv=>whnf
 refine hS.ld 0 rfl rfl ?_
 conv=>whnf
 refine brD (fun h1 => ?_) (fun h1 => ?_)
 · rw [if_pos (by exact h1)]
   conv=>whnf
   refine addS (a := [117, 100, 112, 32]) (by simp; omega) ?_
   repeat' ((conv => whnf); first | refine RetC.mk ?_ | refine nzO ?_ | refine rgO ?_ | refine ixO ?_ | (first|apply brD|apply brND|apply brN|apply brI) <;> (intro))
   exact ⟨by simp, hS.ext⟩
 · rw [if_neg (by exact h1)]
   conv=>whnf
   refine addS (a := [116, 99, 112, 32]) (by simp; omega) ?_
   conv=>whnf
   refine addS (b := [32]) (by simp; omega) ?_
   conv=>whnf
   refine hS.ld 0 rfl rfl ?_
   conv=>whnf
   refine (flagsText_ok fl i5 _).mono ?_
   rintro v w5 ⟨rfl, hx⟩
   replace hS := hS.no hx
   conv=>whnf
   refine addS (by simp; omega) ?_
   repeat' ((conv => whnf); first | refine RetC.mk ?_ | refine nzO ?_ | refine rgO ?_ | refine ixO ?_ | (first|apply brD|apply brND|apply brN|apply brI) <;> (intro))
   exact ⟨by simp, hS.ext⟩
end Go.Proofs.YtogjajjdaoihdaaGreatDoor

namespace Go.Proofs.YtogjajjdaoihdaaGreatDoor
set_option maxRecDepth 20000
open Go Ev
structure Base (E : Nat → Addr) (W0 : World) : Prop where
 errs : Errs W0 E W0.heap.size allErrs
 hand : Handle W0
 pow : Pow10 W0
 prot : Protos W0
 maxl : MaxL W0
 numv : NumV W0
 names : NamesV W0
 text : ∀ k, 1 ≤ k → k < 12 → W0.cell? ⟨(E k).block, (E k).off, (E k).spot⟩ = some (.string (bs (errT k)))
theorem codN : Codec 1 encI := ⟨fun _ => rfl, fun _ => rfl, by decide⟩
section
variable {w w' : World} {X : WorldA} {W : WorldS} {E : Nat → Addr} {m : Nat} {W0 : World}
theorem Stands.base {X' : WorldA} {W' : WorldS} (h : Stands E W0.heap.size m w X W) (hx : Ext No W0 w) (k : Turns w w' (worldH X W) (worldH X' W')) : Ext No W0 w' := hx.then k.ext fun b hb => .inr (h.high b hb)
theorem snumber_ok (l : List UInt8) (w : World) (hl : l.length ≤ 100000) (hV : NumV w) (ht : Pow10 w) :
   CallC Tryz.prog 172 #[.string (bs l)] w fun v w' => (∃ n k, v = .tuple #[.int .i64 n, .bool k] ∧ I64 n ∧ (k = true ↔ 0 ≤ numS l 5) ∧ (0 ≤ numS l 5 → n = numS l 5)) ∧ Ext No w w' := by
 refine fn_intro tabOk Tryz.func172 (by kernel_rfl) rfl Tryz.ntmps172 (lbO rfl) ?_
 have hS := St.start w No
 conv=>whnf
 refine (atoi_ok l w hl hV).mono ?_
 rintro v w1 ⟨⟨n, e, rfl, hn, hcase⟩, hx⟩
 replace hS := hS.no hx
 rcases hcase with ⟨ha, rfl⟩ | ⟨ha, t, u, rfl⟩
 · obtain ⟨k1, k2⟩ := numS_atoi 5 (by omega) ha
   conv=>whnf
   refine brD (fun h5 => ?_) (fun h5 => ?_)
   · have h5 : l.length ≤ 5 := by
       have := bs_size l
       omega
     conv=>whnf
     refine brD (fun h6 => ?_) (fun h6 => ?_)
     · have h6 : 0 ≤ n := by omega
       conv=>whnf
       refine (itoa_ok n hn.1 hn.2 _ (ht.no hS.ext)).mono ?_
       rintro v w2 ⟨rfl, hx⟩
       replace hS := hS.no hx
       conv=>whnf
       refine eqS2 ?_
       repeat' ((conv => whnf); first | refine RetC.mk ?_ | refine nzO ?_ | refine rgO ?_ | refine ixO ?_ | (first|apply brD|apply brND|apply brN|apply brI) <;> (intro))
       refine ⟨⟨_, _, rfl, hn, ?_, k2⟩, hS.ext⟩
       rw [← k1, decide_eq_true_iff]
       exact ⟨fun h => ⟨⟨h5, h⟩, h6⟩, fun h => h.1.2⟩
     · have h6 : ¬ 0 ≤ n := by omega
       repeat' ((conv => whnf); first | refine RetC.mk ?_ | refine nzO ?_ | refine rgO ?_ | refine ixO ?_ | (first|apply brD|apply brND|apply brN|apply brI) <;> (intro))
       refine ⟨⟨_, _, rfl, hn, ?_, k2⟩, hS.ext⟩
       rw [← k1]
       exact ⟨fun h => (by cases h), fun h => absurd h.2 h6⟩
   · have h5 : ¬ l.length ≤ 5 := by
       have := bs_size l
       omega
     repeat' ((conv => whnf); first | refine RetC.mk ?_ | refine nzO ?_ | refine rgO ?_ | refine ixO ?_ | (first|apply brD|apply brND|apply brN|apply brI) <;> (intro))
     refine ⟨⟨_, _, rfl, hn, ?_, k2⟩, hS.ext⟩
     rw [← k1]
     exact ⟨fun h => (by cases h), fun h => absurd h.1.1 h5⟩
 · have hneg := numS_atoi_none (most := 5) (by omega) ha
   repeat' ((conv => whnf); first | refine RetC.mk ?_ | refine nzO ?_ | refine rgO ?_ | refine ixO ?_ | (first|apply brD|apply brND|apply brN|apply brI) <;> (intro))
   exact ⟨⟨_, _, rfl, hn, ⟨fun h => (by cases h), fun h => absurd h (by omega)⟩, fun h => absurd h (by omega)⟩, hS.ext⟩
theorem numsS_len : ∀ {f : List UInt8} {ws : List (List UInt8)}, f.length ≠ ws.length → numsS f ws = none
 | [], [], h => absurd rfl h
 | [], _ :: _, _ => rfl
 | _ :: _, [], _ => rfl
 | c :: f, w :: ws, h => by
   unfold numsS
   rw [numsS_len (f := f) (ws := ws) (fun e => h (by rw [List.length_cons, List.length_cons, e]))]
   split <;> rfl
theorem numsS_at {f : List UInt8} {ws : List (List UInt8)} {k : Nat} {c : UInt8} {t : List UInt8} (hf : f[k]? = some c) (hw : ws[k]? = some t) : numsS (f.drop k) (ws.drop k) = if numS t 5 < 0 ∨ (c = 115 ∧ numS t 5 > 1) then none else (numsS (f.drop (k + 1)) (ws.drop (k + 1))).map fun l => numS t 5 :: l := by
 obtain ⟨l1, e1⟩ := List.getElem?_eq_some_iff.1 hf
 obtain ⟨l2, e2⟩ := List.getElem?_eq_some_iff.1 hw
 rw [List.drop_eq_getElem_cons l1, List.drop_eq_getElem_cons l2, e1, e2]
 rfl
theorem sread_ok {G : List UInt8 → Prop} {a : Option Addr} {n c : Nat} (f : List UInt8) (ws : List (List UInt8)) (hx : Slc w 1 encT G a n ws) (hf : f.length ≤ 10) (hws : ∀ t ∈ ws, t.length ≤ 100000) (hV : NumV w) (ht : Pow10 w) :
   CallC Tryz.prog 81 #[.string (bs f), .slice a n c] w fun v w' => (∃ a' d xs k, v = .tuple #[.slice a' xs.length d, .bool k] ∧ numsS f ws = (if k = true then some xs else none) ∧ (ownL 3 1 encI (.slice a' xs.length d) xs).holds w' ∧ Fresh w w' (.slice a' xs.length d)) ∧ Ext No w w' := by
 have hsz := bs_size f
 have hl := hx.len
 refine fn_intro tabOk Tryz.func81 (by kernel_rfl) rfl Tryz.ntmps81 (lbO rfl) ?_
 have hS := St.start w No
 have nilN : ∀ w : World, (ownL 3 1 encI (.slice none 0 0) ([] : List Int)).holds w := fun w => own_nil _ _ _
 conv=>whnf
 refine brND (fun h1 => ?_) (fun h1 => ?_)
 · repeat' ((conv => whnf); first | refine RetC.mk ?_ | refine nzO ?_ | refine rgO ?_ | refine ixO ?_ | (first|apply brD|apply brND|apply brN|apply brI) <;> (intro))
   exact ⟨⟨none, 0, [], false, rfl, by rw [numsS_len (by omega)]; rfl, nilN _, fun g hg => by cases hg⟩, hS.ext⟩
 have hfn : f.length = n := by omega
 have hS := hS.add (ownL_local (e := 3) (enc := encI) (sz := 1) (v := .slice none 0 0) (xs := [])) (nilN _) (by simp [ownL, own, Value.ownBlock]) (by simp [ownL, own, Value.ownBlock])
 conv=>whnf
 refine loopR tabOk (fun σ w' q => ∃ (k : Nat) (a' : Option Addr) (d : Nat) (xs : List Int), σ = [(17, .int .i64 (k : Int)), (16, .int .i64 (n : Int)), (15, .slice a n c), (4, .slice a' k d), (0, .string (bs f))] ∧ q = n - k ∧ k ≤ n ∧ xs.length = k ∧ numsS f ws = (numsS (f.drop k) (ws.drop k)).map (fun l => xs ++ l) ∧ St w No w' [ownL 3 1 encI (.slice a' k d) xs])
   (σ' := [(17, .int .i64 ((0 : Nat) : Int)), (16, .int .i64 (n : Int)), (15, .slice a n c), (4, .slice none 0 0), (0, .string (bs f))]) (n := n) ⟨rfl, rfl, rfl, rfl, rfl, trivial⟩ ⟨0, none, 0, [], rfl, rfl, Nat.zero_le _, rfl, by simp, hS⟩ ?_
 clear hS
 rintro _ w1 q ⟨k, a', d, xs, rfl, rfl, hk, hxs, hi, hS⟩
 conv=>whnf
 refine brD (fun h3 => ?_) (fun h3 => ?_)
 · obtain ⟨b0, o0, t, hat, _, rfl, _, hc⟩ := hx.at (k := k) (by omega)
   obtain ⟨ch, hch⟩ : ∃ x, f[k]? = some x := ⟨_, List.getElem?_eq_getElem (by omega)⟩
   have hst := numsS_at hch hat
   conv=>whnf
   refine ixO ?_
   conv=>whnf
   refine hS.ldr (hc 0 _ rfl) id ?_
   conv=>whnf
   refine (snumber_ok t _ (hws t (List.mem_of_getElem? hat)) (hV.no hS.ext) (ht.no hS.ext)).mono ?_
   rintro v w2 ⟨⟨x, j, rfl, hj, i1, i2⟩, hx'⟩
   replace hS := hS.no hx'
   cases j with
   | false =>
     have hneg : numS t 5 < 0 := Int.not_le.1 fun h => (by cases i1.2 h)
     rw [if_pos (.inl hneg)] at hst
     repeat' ((conv => whnf); first | refine RetC.mk ?_ | refine nzO ?_ | refine rgO ?_ | refine ixO ?_ | (first|apply brD|apply brND|apply brN|apply brI) <;> (intro))
     exact ⟨⟨none, 0, [], false, rfl, by rw [hi, hst]; rfl, nilN _, fun g hg => by cases hg⟩, hS.ext⟩
   | true =>
     have h0 := i1.1 rfl
     obtain rfl := i2 h0
     conv=>whnf
     refine idxS (j := k) Tryz.underlying9 rfl hch ?_
     conv=>whnf
     refine eqC ?_
     have hcc : ((ch.toNat : Int) == 115) = decide (ch = 115) := by
       rw [Bool.eq_iff_iff, beq_iff_eq, decide_eq_true_iff]
       exact ⟨fun h => UInt8.toNat_inj.1 (by show ch.toNat = 115; omega), fun h => by rw [h]; rfl⟩
     rw [hcc]
     have bad : ch = 115 → numS t 5 > 1 → numsS f ws = none := fun e1 e2 => by
       rw [if_pos (.inr ⟨e1, e2⟩)] at hst
       rw [hi, hst]
       rfl
     have good : ¬ (ch = 115 ∧ numS t 5 > 1) → numsS f ws = (numsS (f.drop (k + 1)) (ws.drop (k + 1))).map (fun l => (xs ++ [numS t 5]) ++ l) := fun e => by
       rw [if_neg (fun h => h.elim (fun h => by omega) e)] at hst
       rw [hi, hst, Option.map_map]
       congr 1
       funext l
       simp
     have step : ∀ {Q : Prop}, ((numsS f ws = (numsS (f.drop (k + 1)) (ws.drop (k + 1))).map (fun l => (xs ++ [numS t 5]) ++ l)) → Q) → ¬ (ch = 115 ∧ numS t 5 > 1) → Q := fun hq e => hq (good e)
     clear good hst hi
     conv=>whnf
     refine brD (fun h5 => ?_) (fun h5 => ?_)
     · (conv => whnf)
       refine brD (fun h6 => ?_) (fun h6 => ?_)
       · repeat' ((conv => whnf); first | refine RetC.mk ?_ | refine nzO ?_ | refine rgO ?_ | refine ixO ?_ | (first|apply brD|apply brND|apply brN|apply brI) <;> (intro))
         exact ⟨⟨none, 0, [], false, rfl, by rw [bad h5 h6]; rfl, nilN _, fun g hg => by cases hg⟩, hS.ext⟩
       · refine step (fun hi => ?_) (fun h => h6 h.2)
         conv=>whnf
         refine hS.lit (cs := encI (numS t 5)) Tryz.underlying47 (sz := 1) (by kernel_rfl) (z := .int .i64 0) (by kernel_rfl) rfl rfl (by rfl) (fun bl w' hbl hS => ?_)
         have hy : Slc w' 1 encI (fun _ => True) (some ⟨bl, 0, none⟩) 1 [numS t 5] := Slc.of_blk codN (hS.blk 1 rfl) rfl (by decide) (fun _ _ => trivial) rfl
         conv=>whnf
         refine hS.appS codN 0 Tryz.underlying47 (bytes := 8) (by kernel_rfl) (z := .int .i64 0) (by kernel_rfl) rfl rfl hy (by unfold maxLen; omega) (by omega) (fun a2 c2 w' hS => ?_)
         rw [hxs] at hS ⊢
         replace hS : St w No w' [ownL 3 1 encI (.slice a2 (k + 1) c2) (xs ++ [numS t 5]), blk bl 3 (encI (numS t 5))] := hS
         replace hS := hS.keep 1
         conv=>whnf
         refine rgO ?_
         conv=>whnf
         refine LoopE.mk ⟨_, [(17, .int .i64 ((k + 1 : Nat) : Int)), (16, _), (15, _), (4, _), (0, _)], ?_, ⟨rfl, rfl, rfl, rfl, rfl, trivial⟩, ⟨k + 1, a2, c2, xs ++ [numS t 5], rfl, rfl, by omega, by rw [List.length_append, hxs]; rfl, hi, hS⟩⟩
         omega
     · refine step (fun hi => ?_) (fun h => h5 h.1)
       conv=>whnf
       refine hS.lit (cs := encI (numS t 5)) Tryz.underlying47 (sz := 1) (by kernel_rfl) (z := .int .i64 0) (by kernel_rfl) rfl rfl (by rfl) (fun bl w' hbl hS => ?_)
       have hy : Slc w' 1 encI (fun _ => True) (some ⟨bl, 0, none⟩) 1 [numS t 5] := Slc.of_blk codN (hS.blk 1 rfl) rfl (by decide) (fun _ _ => trivial) rfl
       conv=>whnf
       refine hS.appS codN 0 Tryz.underlying47 (bytes := 8) (by kernel_rfl) (z := .int .i64 0) (by kernel_rfl) rfl rfl hy (by unfold maxLen; omega) (by omega) (fun a2 c2 w' hS => ?_)
       rw [hxs] at hS ⊢
       replace hS : St w No w' [ownL 3 1 encI (.slice a2 (k + 1) c2) (xs ++ [numS t 5]), blk bl 3 (encI (numS t 5))] := hS
       replace hS := hS.keep 1
       conv=>whnf
       refine rgO ?_
       conv=>whnf
       refine LoopE.mk ⟨_, [(17, .int .i64 ((k + 1 : Nat) : Int)), (16, _), (15, _), (4, _), (0, _)], ?_, ⟨rfl, rfl, rfl, rfl, rfl, trivial⟩, ⟨k + 1, a2, c2, xs ++ [numS t 5], rfl, rfl, by omega, by rw [List.length_append, hxs]; rfl, hi, hS⟩⟩
       omega
 · obtain rfl : k = n := by omega
   rw [List.drop_of_length_le (by omega), List.drop_of_length_le (by omega)] at hi
   repeat' ((conv => whnf); first | refine RetC.mk ?_ | refine nzO ?_ | refine rgO ?_ | refine ixO ?_ | (first|apply brD|apply brND|apply brN|apply brI) <;> (intro))
   rw [← hxs]
   exact ⟨⟨a', d, xs, true, rfl, by rw [hi]; simp [numsS], by rw [hxs]; exact hS.get 0 rfl, by rw [hxs]; exact hS.freshAt 0 rfl⟩, hS.ext⟩
end
end Go.Proofs.YtogjajjdaoihdaaGreatDoor

namespace Go.Proofs.YtogjajjdaoihdaaGreatDoor
set_option maxRecDepth 20000
open Go Ev
structure Sits (E : Nat → Addr) (q m : Nat) (w : World) (X : WorldA) (W : WorldS) (bp : Nat) (a : Option Addr) (n : Nat) (xs : List Int) : Prop where
 st : Stands E q m w X W
 ply : Blk w bp 90 [.pointer (some ⟨X.w, 0, none⟩)]
 plo : ¬ inF (worldH X W) bp
 slc : Slc w 1 encI (fun v => 0 ≤ v ∧ v ≤ 99999) a n xs
 out : 0 < n → ∀ b0 o0, a = some ⟨b0, o0, none⟩ → ¬ inF (worldH X W) b0
section
variable {w w' : World} {X : WorldA} {W : WorldS} {E : Nat → Addr} {q m bp n c : Nat} {a : Option Addr} {xs : List Int}
theorem Sits.cell (h : Sits E q m w X W bp a n xs) : w.cell? ⟨bp, 0, none⟩ = some (.pointer (some ⟨X.w, 0, none⟩)) := h.ply.cell 0
theorem Sits.at0 (h : Sits E q m w X W bp a n xs) {k : Nat} (hk : k < n) : ∃ b0 o0 x, a = some ⟨b0, o0, none⟩ ∧ xs[k]? = some x ∧ (0 ≤ x ∧ x ≤ 99999) ∧ ¬ inF (worldH X W) b0 ∧ w.cell? ⟨b0, o0 + k * 1, none⟩ = some (.int .i64 x) := by
 obtain ⟨b0, o0, x, hat, hg, ha, _, hc⟩ := h.slc.at hk
 exact ⟨b0, o0, x, ha, hat, hg, h.out (by omega) b0 o0 ha, hc.one 0 rfl⟩
theorem act_go (h : Sits E q m w X W bp a 1 xs) : CallC Tryz.prog 139 #[.pointer (some ⟨bp, 0, none⟩), .slice a 1 c] w (Does E w X W (W.deliver (at0 xs 0))) := by
 obtain ⟨b0, o0, x0, rfl, hat, hg, ho, hc⟩ := h.at0 (k := 0) (by omega)
 rw [at0_of hat]
 have hplo := h.plo
 refine fn_intro tabOk Tryz.func139 (by kernel_rfl) rfl Tryz.ntmps139 (lbO rfl) ?_
 have hS := St.start w No
 conv=>whnf
 (refine drawS tabOk mixed [] (inF (worldH X W)) [0, 1, 2, 3, 4, 5, 6, 7, 8] (by kernel_rfl) ?_; rintro w1 rfl; replace hS := hS.drew)
 conv=>whnf
 refine Ev.ldFc h.cell hplo ?_
 conv=>whnf
 refine ixO ?_
 conv=>whnf
 refine Ev.ldFc hc ho ?_
 conv=>whnf
 refine (wdeliver_ok x0 (h.st.no (Ext.drawn _ _ _))).mono ?_
 rintro v w2 ⟨rfl, X', hw, hk⟩
 refine KeepC.mk hk.ext ?_
 repeat' ((conv => whnf); first | refine RetC.mk ?_ | refine nzO ?_ | refine rgO ?_ | refine ixO ?_ | (first|apply brD|apply brND|apply brN|apply brI) <;> (intro))
 exact ⟨rfl, X', hw, (Turns.of_no h.st.has (Ext.drawn _ _ _)).trans hk⟩
theorem act_lose (h : Sits E q m w X W bp a 1 xs) : CallC Tryz.prog 141 #[.pointer (some ⟨bp, 0, none⟩), .slice a 1 c] w (Does E w X W (W.drop (at0 xs 0))) := by
 obtain ⟨b0, o0, x0, rfl, hat, hg, ho, hc⟩ := h.at0 (k := 0) (by omega)
 rw [at0_of hat]
 have hplo := h.plo
 refine fn_intro tabOk Tryz.func141 (by kernel_rfl) rfl Tryz.ntmps141 (lbO rfl) ?_
 have hS := St.start w No
 conv=>whnf
 (refine drawS tabOk mixed [] (inF (worldH X W)) [0, 1, 2, 3, 4, 5, 6, 7, 8] (by kernel_rfl) ?_; rintro w1 rfl; replace hS := hS.drew)
 conv=>whnf
 refine Ev.ldFc h.cell hplo ?_
 conv=>whnf
 refine ixO ?_
 conv=>whnf
 refine Ev.ldFc hc ho ?_
 conv=>whnf
 refine (wdrop_ok x0 (h.st.no (Ext.drawn _ _ _))).mono ?_
 rintro v w2 ⟨rfl, X', hw, hk⟩
 refine KeepC.mk hk.ext ?_
 repeat' ((conv => whnf); first | refine RetC.mk ?_ | refine nzO ?_ | refine rgO ?_ | refine ixO ?_ | (first|apply brD|apply brND|apply brN|apply brI) <;> (intro))
 exact ⟨rfl, X', hw, (Turns.of_no h.st.has (Ext.drawn _ _ _)).trans hk⟩
theorem act_twice (h : Sits E q m w X W bp a 1 xs) : CallC Tryz.prog 143 #[.pointer (some ⟨bp, 0, none⟩), .slice a 1 c] w (Does E w X W (W.twice (at0 xs 0))) := by
 obtain ⟨b0, o0, x0, rfl, hat, hg, ho, hc⟩ := h.at0 (k := 0) (by omega)
 rw [at0_of hat]
 have hplo := h.plo
 refine fn_intro tabOk Tryz.func143 (by kernel_rfl) rfl Tryz.ntmps143 (lbO rfl) ?_
 have hS := St.start w No
 conv=>whnf
 (refine drawS tabOk mixed [] (inF (worldH X W)) [0, 1, 2, 3, 4, 5, 6, 7, 8] (by kernel_rfl) ?_; rintro w1 rfl; replace hS := hS.drew)
 conv=>whnf
 refine Ev.ldFc h.cell hplo ?_
 conv=>whnf
 refine ixO ?_
 conv=>whnf
 refine Ev.ldFc hc ho ?_
 conv=>whnf
 refine (wtwice_ok x0 (h.st.no (Ext.drawn _ _ _))).mono ?_
 rintro v w2 ⟨rfl, X', hw, hk⟩
 refine KeepC.mk hk.ext ?_
 repeat' ((conv => whnf); first | refine RetC.mk ?_ | refine nzO ?_ | refine rgO ?_ | refine ixO ?_ | (first|apply brD|apply brND|apply brN|apply brI) <;> (intro))
 exact ⟨rfl, X', hw, (Turns.of_no h.st.has (Ext.drawn _ _ _)).trans hk⟩
theorem act_down (h : Sits E q m w X W bp a 1 xs) : CallC Tryz.prog 145 #[.pointer (some ⟨bp, 0, none⟩), .slice a 1 c] w (Does E w X W (W.down (at0 xs 0))) := by
 obtain ⟨b0, o0, x0, rfl, hat, hg, ho, hc⟩ := h.at0 (k := 0) (by omega)
 rw [at0_of hat]
 have hplo := h.plo
 refine fn_intro tabOk Tryz.func145 (by kernel_rfl) rfl Tryz.ntmps145 (lbO rfl) ?_
 have hS := St.start w No
 conv=>whnf
 (refine drawS tabOk mixed [] (inF (worldH X W)) [0, 1, 2, 3, 4, 5, 6, 7, 8] (by kernel_rfl) ?_; rintro w1 rfl; replace hS := hS.drew)
 conv=>whnf
 refine Ev.ldFc h.cell hplo ?_
 conv=>whnf
 refine ixO ?_
 conv=>whnf
 refine Ev.ldFc hc ho ?_
 conv=>whnf
 refine (wdown_ok x0 (h.st.no (Ext.drawn _ _ _))).mono ?_
 rintro v w2 ⟨rfl, hk⟩
 refine KeepC.mk hk.ext ?_
 repeat' ((conv => whnf); first | refine RetC.mk ?_ | refine nzO ?_ | refine rgO ?_ | refine ixO ?_ | (first|apply brD|apply brND|apply brN|apply brI) <;> (intro))
 exact ⟨rfl, X, rfl, (Turns.of_no h.st.has (Ext.drawn _ _ _)).trans hk⟩
theorem act_up (h : Sits E q m w X W bp a 1 xs) : CallC Tryz.prog 147 #[.pointer (some ⟨bp, 0, none⟩), .slice a 1 c] w (Does E w X W (W.up (at0 xs 0))) := by
 obtain ⟨b0, o0, x0, rfl, hat, hg, ho, hc⟩ := h.at0 (k := 0) (by omega)
 rw [at0_of hat]
 have hplo := h.plo
 refine fn_intro tabOk Tryz.func147 (by kernel_rfl) rfl Tryz.ntmps147 (lbO rfl) ?_
 have hS := St.start w No
 conv=>whnf
 (refine drawS tabOk mixed [] (inF (worldH X W)) [0, 1, 2, 3, 4, 5, 6, 7, 8] (by kernel_rfl) ?_; rintro w1 rfl; replace hS := hS.drew)
 conv=>whnf
 refine Ev.ldFc h.cell hplo ?_
 conv=>whnf
 refine ixO ?_
 conv=>whnf
 refine Ev.ldFc hc ho ?_
 conv=>whnf
 refine (wcome_ok x0 (h.st.no (Ext.drawn _ _ _))).mono ?_
 rintro v w2 ⟨rfl, X', hw, hk⟩
 refine KeepC.mk hk.ext ?_
 repeat' ((conv => whnf); first | refine RetC.mk ?_ | refine nzO ?_ | refine rgO ?_ | refine ixO ?_ | (first|apply brD|apply brND|apply brN|apply brI) <;> (intro))
 exact ⟨rfl, X', hw, (Turns.of_no h.st.has (Ext.drawn _ _ _)).trans hk⟩
theorem act_tick (h : Sits E q m w X W bp a 2 xs) (hm : m + 34 * (at0 xs 1).toNat ≤ 40000000) : CallC Tryz.prog 137 #[.pointer (some ⟨bp, 0, none⟩), .slice a 2 c] w (Does E w X W (W.ticks (at0 xs 0) (at0 xs 1).toNat)) := by
 obtain ⟨b0, o0, x0, rfl, hat, hg, ho, hc⟩ := h.at0 (k := 0) (by omega)
 obtain ⟨b1, o1, x1, hae, hat1, hg1, _, hc1⟩ := h.at0 (k := 1) (by omega)
 cases hae
 rw [at0_of hat, at0_of hat1]
 have hplo := h.plo
 obtain ⟨k1, rfl⟩ : ∃ k : Nat, x1 = k := ⟨x1.toNat, by omega⟩
 refine fn_intro tabOk Tryz.func137 (by kernel_rfl) rfl Tryz.ntmps137 (lbO rfl) ?_
 have hS := St.start w No
 conv=>whnf
 (refine drawS tabOk mixed [] (inF (worldH X W)) [0, 1, 2, 3, 4, 5, 6, 7, 8, 9, 10, 11] (by kernel_rfl) ?_; rintro w1 rfl; replace hS := hS.drew)
 conv=>whnf
 refine Ev.ldFc h.cell hplo ?_
 conv=>whnf
 refine ixO ?_
 conv=>whnf
 refine Ev.ldFc hc ho ?_
 conv=>whnf
 refine ixO ?_
 conv=>whnf
 refine Ev.ldFc hc1 ho ?_
 conv=>whnf
 refine (pticks_ok x0 k1 (h.st.no (Ext.drawn _ _ _)) (by rw [at0_of hat1] at hm; simpa using hm)).mono ?_
 rintro v w2 ⟨rfl, X', hw, hk⟩
 refine KeepC.mk hk.ext ?_
 repeat' ((conv => whnf); first | refine RetC.mk ?_ | refine nzO ?_ | refine rgO ?_ | refine ixO ?_ | (first|apply brD|apply brND|apply brN|apply brI) <;> (intro))
 exact ⟨rfl, X', hw, (Turns.of_no h.st.has (Ext.drawn _ _ _)).trans hk⟩
theorem act_cut (h : Sits E q m w X W bp a 2 xs) : CallC Tryz.prog 149 #[.pointer (some ⟨bp, 0, none⟩), .slice a 2 c] w (Does E w X W (W.cut (at0 xs 0) (at0 xs 1))) := by
 obtain ⟨b0, o0, x0, rfl, hat, hg, ho, hc⟩ := h.at0 (k := 0) (by omega)
 obtain ⟨b1, o1, x1, hae, hat1, hg1, _, hc1⟩ := h.at0 (k := 1) (by omega)
 cases hae
 rw [at0_of hat, at0_of hat1]
 have hplo := h.plo
 obtain ⟨k1, rfl⟩ : ∃ k : Nat, x1 = k := ⟨x1.toNat, by omega⟩
 refine fn_intro tabOk Tryz.func149 (by kernel_rfl) rfl Tryz.ntmps149 (lbO rfl) ?_
 have hS := St.start w No
 conv=>whnf
 (refine drawS tabOk mixed [] (inF (worldH X W)) [0, 1, 2, 3, 4, 5, 6, 7, 8, 9, 10, 11] (by kernel_rfl) ?_; rintro w1 rfl; replace hS := hS.drew)
 conv=>whnf
 refine Ev.ldFc h.cell hplo ?_
 conv=>whnf
 refine ixO ?_
 conv=>whnf
 refine Ev.ldFc hc ho ?_
 conv=>whnf
 refine ixO ?_
 conv=>whnf
 refine Ev.ldFc hc1 ho ?_
 conv=>whnf
 refine (wcut_ok x0 k1 (h.st.no (Ext.drawn _ _ _))).mono ?_
 rintro v w2 ⟨rfl, hk⟩
 refine KeepC.mk hk.ext ?_
 repeat' ((conv => whnf); first | refine RetC.mk ?_ | refine nzO ?_ | refine rgO ?_ | refine ixO ?_ | (first|apply brD|apply brND|apply brN|apply brI) <;> (intro))
 exact ⟨rfl, X, rfl, (Turns.of_no h.st.has (Ext.drawn _ _ _)).trans hk⟩
def Cmd.act (c : Cmd) (xs : List Int) (W : WorldS) : Nat × WorldS := match c with
 | .tick => W.ticks (at0 xs 0) (at0 xs 1).toNat
 | .go => W.deliver (at0 xs 0)
 | .lose => W.drop (at0 xs 0)
 | .twice => W.twice (at0 xs 0)
 | .down => W.down (at0 xs 0)
 | .up => W.up (at0 xs 0)
 | _ => W.cut (at0 xs 0) (at0 xs 1)
theorem sact_ok {d : Cmd} (hd : d ∈ actsL) (h : Sits E q m w X W bp a n xs) (hn : n = d.form.length) (hm : d = .tick → m + 34 * (at0 xs 1).toNat ≤ 40000000) : CallC Tryz.prog (actF d) #[.pointer (some ⟨bp, 0, none⟩), .slice a n c] w (Does E w X W (d.act xs W)) := by
 subst hn
 simp only [actsL, List.mem_cons, List.not_mem_nil, or_false] at hd
 rcases hd with rfl | rfl | rfl | rfl | rfl | rfl | rfl
 · exact act_tick h (hm rfl)
 · exact act_go h
 · exact act_lose h
 · exact act_twice h
 · exact act_down h
 · exact act_up h
 · exact act_cut h
theorem scr_ok (e : Value) (w : World) : CallC Tryz.prog 232 #[e] w fun v w' => v = .tuple #[.string (bs tOk), e] ∧ w = w' := by
 refine fn_intro tabOk Tryz.func232 (by kernel_rfl) rfl Tryz.ntmps232 (lbO rfl) ?_
 repeat' ((conv => whnf); first | refine RetC.mk ?_ | refine nzO ?_ | refine rgO ?_ | refine ixO ?_ | (first|apply brD|apply brND|apply brN|apply brI) <;> (intro))
 exact ⟨rfl, rfl⟩
abbrev Plays (E : Nat → Addr) (w : World) (X : WorldA) (W : WorldS) (r : (List UInt8 × Nat) × WorldS) (v : Value) (w' : World) : Prop := v = .tuple #[.string (bs r.1.1), errV E r.1.2] ∧ ∃ X', X'.w = X.w ∧ Turns w w' (worldH X W) (worldH X' r.2)
theorem Cmd.does_act {d : Cmd} (hd : d ∈ actsL) (xs : List Int) (W : WorldS) : d.does xs W = ((tOk, (d.act xs W).1), (d.act xs W).2) := by
 simp only [actsL, List.mem_cons, List.not_mem_nil, or_false] at hd
 rcases hd with rfl | rfl | rfl | rfl | rfl | rfl | rfl <;> rfl
theorem one_call {d : Cmd} {bf : Nat} (hd : d ∈ actsL) (hf : Blk w bf 273 [fnV (actF d) []]) (h : Sits E q m w X W bp a n xs) (hn : n = d.form.length) (hm : d = .tick → m + 34 * (at0 xs 1).toNat ≤ 40000000) :
   CallC Tryz.prog 231 #[.pointer (some ⟨bp, 0, none⟩), .slice a n c, .pointer (some ⟨bf, 0, none⟩)] w (Plays E w X W (d.does xs W)) := by
 rw [Cmd.does_act hd]
 refine fn_intro tabOk Tryz.func231 (by kernel_rfl) rfl Tryz.ntmps231 (lbO rfl) ?_
 conv=>whnf
 refine ldc (hf.cell 0) ?_
 conv=>whnf
 refine (sact_ok hd h hn hm).mono ?_
 rintro v w2 ⟨rfl, X', hw, hk⟩
 conv=>whnf
 refine (scr_ok _ _).mono ?_
 rintro v w3 ⟨rfl, rfl⟩
 repeat' ((conv => whnf); first | refine RetC.mk ?_ | refine nzO ?_ | refine rgO ?_ | refine ixO ?_ | (first|apply brD|apply brND|apply brN|apply brI) <;> (intro))
 exact ⟨rfl, X', hw, hk⟩
end
end Go.Proofs.YtogjajjdaoihdaaGreatDoor

namespace Go.Proofs.YtogjajjdaoihdaaGreatDoor
set_option maxRecDepth 20000
open Go Ev
theorem joinTail_len {n : Nat} (sep : List UInt8) : ∀ {xs : List (List UInt8)}, (∀ x ∈ xs, x.length ≤ n) → (Lib.joinTail sep xs).length ≤ xs.length * (n + sep.length)
 | [], _ => Nat.le_of_eq (Nat.zero_mul _).symm
 | x :: xs, h => by
   have h1 := h x List.mem_cons_self
   have h2 := joinTail_len sep (xs := xs) fun y hy => h y (List.mem_cons_of_mem _ hy)
   have e : Lib.joinTail sep (x :: xs) = sep ++ x ++ Lib.joinTail sep xs := rfl
   rw [e, List.length_append, List.length_append, List.length_cons, Nat.succ_mul]
   omega
theorem join_lenN {n : Nat} {sep : List UInt8} {xs : List (List UInt8)} (h : ∀ x ∈ xs, x.length ≤ n) : (Lib.join xs sep).length ≤ xs.length * (n + sep.length) := by
 cases xs with
 | nil => exact Nat.le_of_eq (Nat.zero_mul _).symm
 | cons x xs =>
   have h1 := h x List.mem_cons_self
   have h2 := joinTail_len sep (xs := xs) fun y hy => h y (List.mem_cons_of_mem _ hy)
   rw [Lib.join_cons, List.length_append, List.length_cons, Nat.succ_mul]
   omega
theorem flowsN_step {xs : List CellS} {k : Nat} {x : CellS} (h : xs[k]? = some x) : flowsN (xs.take (k + 1)) = flowsN (xs.take k) + if x.f.proto ≠ 0 then 1 else 0 := by
 unfold flowsN
 rw [List.take_add_one, h, List.filter_append, List.length_append]
 by_cases hx : x.f.proto = 0 <;> simp [hx]
theorem flowsN_le (xs : List CellS) : flowsN xs ≤ xs.length := List.length_filter_le _ _
def EvOk (e : Int × Int) : Prop := I64 e.1 ∧ I64 e.2
theorem evT1_len {e : Int × Int} (h : EvOk e) : (evT1 e).length ≤ 43 := by
 have e1 := Lib.itoa_length_le e.1 h.1.1 h.1.2
 have e2 := Lib.itoa_length_le e.2 h.2.1 h.2.2
 unfold evT1
 rw [List.length_append, List.length_append, List.length_singleton]
 omega
section
variable {w w' : World} {X : WorldA} {W : WorldS} {E : Nat → Addr} {q m bp n c : Nat} {a : Option Addr} {xs : List Int}
theorem sflows_ok {G : CellS → Prop} {cs : List CellS} (hx : Slc w 10 encCell G a n cs) (hn : n ≤ 1000) : CallC Tryz.prog 162 #[.slice a n c] w fun v w' => v = .int .i64 (flowsN cs : Nat) ∧ Ext No w w' := by
 have hl := hx.len
 refine fn_intro tabOk Tryz.func162 (by kernel_rfl) rfl Tryz.ntmps162 (lbO rfl) ?_
 have hS := St.start w No
 conv=>whnf
 refine loopR tabOk (fun σ w' q => ∃ k : Nat, σ = [(8, .int .i64 (k : Int)), (7, .int .i64 n), (6, .slice a n c), (3, .int .i64 ((flowsN (cs.take k) : Nat) : Int))] ∧ q = n - k ∧ k ≤ n ∧ St w No w' [])
   (σ' := [(8, .int .i64 ((0 : Nat) : Int)), (7, .int .i64 n), (6, .slice a n c), (3, .int .i64 ((flowsN (cs.take 0) : Nat) : Int))]) (n := n) ⟨rfl, rfl, rfl, rfl, trivial⟩ ⟨0, rfl, rfl, Nat.zero_le _, hS⟩ ?_
 clear hS
 rintro _ w1 q ⟨k, rfl, rfl, hk, hS⟩
 conv=>whnf
 refine brD (fun h3 => ?_) (fun h3 => ?_)
 · obtain ⟨b0, o0, x, hxk, hgx, rfl, _, hc⟩ := hx.at (k := k) (by omega)
   have hst := flowsN_step hxk
   have hle := flowsN_le (cs.take k)
   rw [List.length_take] at hle
   conv=>whnf
   refine ixO ?_
   conv=>whnf
   refine hS.lar (l := encCell x) rfl hc id ?_
   conv=>whnf
   refine hS.new (fun bx w' hb hS => ?_)
   conv=>whnf
   refine hS.st 0 rfl (lbO rfl) rfl (fun w' hS => ?_)
   replace hS : St w No w' [blk bx 209 (encCell x)] := hS
   conv=>whnf
   refine hS.ld 0 rfl rfl ?_
   conv=>whnf
   refine brN (fun h4 => ?_) (fun h4 => ?_)
   · rw [if_pos (by simpa using h4)] at hst
     conv=>whnf
     refine rgO ?_
     conv=>whnf
     refine rgO ?_
     conv=>whnf
     refine LoopE.mk ⟨_, [(8, .int .i64 ((k + 1 : Nat) : Int)), (7, _), (6, _), (3, .int .i64 ((flowsN (cs.take k) + 1 : Nat) : Int))], ?_, ⟨rfl, rfl, rfl, rfl, trivial⟩, ⟨k + 1, by rw [hst], rfl, by omega, hS.keep 0⟩⟩
     omega
   · rw [if_neg (by simpa using h4)] at hst
     conv=>whnf
     refine rgO ?_
     conv=>whnf
     refine LoopE.mk ⟨_, [(8, .int .i64 ((k + 1 : Nat) : Int)), (7, _), (6, _), (3, _)], ?_, ⟨rfl, rfl, rfl, rfl, trivial⟩, ⟨k + 1, by rw [hst]; rfl, rfl, by omega, hS.keep 0⟩⟩
     omega
 · obtain rfl : k = n := by omega
   rw [List.take_of_length_le (by omega)]
   repeat' ((conv => whnf); first | refine RetC.mk ?_ | refine nzO ?_ | refine rgO ?_ | refine ixO ?_ | (first|apply brD|apply brND|apply brN|apply brI) <;> (intro))
   exact ⟨rfl, hS.ext⟩
theorem sevents_ok {es : List (Int × Int)} (hx : Slc w 2 encEv EvOk a n es) (hn : n ≤ 1000) (ht : Pow10 w) : CallC Tryz.prog 171 #[.slice a n c] w fun v w' => v = .string (bs (eventsT es)) ∧ Ext No w w' := by
 have hl := hx.len
 have hgood := hx.good
 refine fn_intro tabOk Tryz.func171 (by kernel_rfl) rfl Tryz.ntmps171 (lbO rfl) ?_
 have hS := (St.start w No).addNil 9 1 encT
 conv=>whnf
 refine loopR tabOk (fun σ w' q => ∃ (k : Nat) (a' : Option Addr) (c' : Nat), σ = [(8, .int .i64 (k : Int)), (7, .int .i64 n), (6, .slice a n c), (3, .slice a' k c')] ∧ q = n - k ∧ k ≤ n ∧ (k = 0 → a' = none) ∧ St w No w' [ownL 9 1 encT (.slice a' k c') ((es.map evT1).take k)])
   (σ' := [(8, .int .i64 ((0 : Nat) : Int)), (7, .int .i64 n), (6, .slice a n c), (3, .slice none 0 0)]) (n := n) ⟨rfl, rfl, rfl, rfl, trivial⟩ ⟨0, none, 0, rfl, rfl, Nat.zero_le _, fun _ => rfl, hS⟩ ?_
 clear hS
 rintro _ w1 q ⟨k, a', c', rfl, rfl, hk, ha, hS⟩
 conv=>whnf
 refine brD (fun h3 => ?_) (fun h3 => ?_)
 · obtain ⟨b0, o0, x, hxk, hgx, rfl, hb0, hc⟩ := hx.at (k := k) (by omega)
   have hT : ¬ w.heap.size ≤ b0 := Nat.not_le.2 hb0
   have hlk : ((es.map evT1).take k).length = k := by rw [List.length_take, List.length_map]; omega
   have hst : (es.map evT1).take (k + 1) = (es.map evT1).take k ++ [evT1 x] := by rw [List.take_add_one, List.getElem?_map, hxk]; rfl
   have e1 := Lib.itoa_length_le x.1 hgx.1.1 hgx.1.2
   have e2 := Lib.itoa_length_le x.2 hgx.2.1 hgx.2.2
   conv=>whnf
   refine ixO ?_
   conv=>whnf
   refine hS.lar (l := encEv x) rfl hc id ?_
   conv=>whnf
   refine hS.new (fun bx w' hb hS => ?_)
   conv=>whnf
   refine hS.st 1 rfl (lbO rfl) rfl (fun w' hS => ?_)
   replace hS : St w No w' [ownL 9 1 encT (.slice a' k c') ((es.map evT1).take k), blk bx 157 (encEv x)] := hS
   have hbx : ¬ (Value.slice a' k c').ownBlock = some bx := fun he => hS.apartAt 1 0 rfl rfl (by decide) bx (List.mem_singleton.2 rfl) (by simp [ownL, own, he])
   conv=>whnf
   (refine drawS tabOk mixed [] (fun b => (Value.slice a' k c').ownBlock = some b) [0, 1, 2, 5, 6, 3, 4, 7, 8, 9, 10, 11] (by kernel_rfl) ?_; rintro w1 rfl; replace hS := hS.drew)
   have hK := hS.ref (fun b => (Value.slice a' k c').ownBlock = some b)
   conv=>whnf
   refine hS.ldF 1 rfl rfl hbx ?_
   conv=>whnf
   refine hS.ldF 1 rfl rfl hbx ?_
   conv=>whnf
   refine (itoa_ok x.1 hgx.1.1 hgx.1.2 _ (ht.no hS.ext)).mono ?_
   rintro v w2 ⟨rfl, hx'⟩
   replace hS := hS.no hx'
   replace hK := hK.trans hx'.of_no
   refine KeepC.mk hK ?_
   clear hx'
   conv=>whnf
   refine addS (b := [32]) (by simp; omega) ?_
   conv=>whnf
   refine (itoa_ok x.2 hgx.2.1 hgx.2.2 _ (ht.no hS.ext)).mono ?_
   rintro v w2 ⟨rfl, hx'⟩
   replace hS := hS.no hx'
   replace hK := hK.trans hx'.of_no
   refine KeepC.mk hK ?_
   clear hx'
   conv=>whnf
   refine addS (by simp; omega) ?_
   conv=>whnf
   refine hS.litX Tryz.underlying22 (sz := 1) (by kernel_rfl) (z := .string (bs [])) (by kernel_rfl) rfl rfl (cs := encT (evT1 x)) (by rfl) (fun b9 w3 hb9 hx3 hS => ?_)
   replace hK := hK.trans hx3.of_no
   refine KeepC.mk hK ?_
   clear hx3
   conv=>whnf
   refine hS.appX codT 0 (ys := [evT1 x]) (G := fun _ => True) Tryz.underlying22 (bytes := 16) (by kernel_rfl) (z := .string (bs [])) (by kernel_rfl) rfl rfl (Slc.of_blk codT (hS.blk 2 rfl) rfl (by simp) (fun _ _ => trivial) rfl) (by rw [hlk]; unfold maxLen; omega) (by rw [hlk]; omega) (fun a2 c2 w4 hx4 hS => ?_)
   replace hK := hK.trans hx4
   refine KeepC.mk hK ?_
   clear hx4 hK
   rw [hlk] at hS ⊢
   replace hS := hS.keep 1
   replace hS : St w No w4 [ownL 9 1 encT (.slice a2 (k + 1) c2) ((es.map evT1).take (k + 1))] := by rw [hst]; exact hS
   conv=>whnf
   refine rgO ?_
   conv=>whnf
   refine LoopE.mk ⟨_, [(8, .int .i64 ((k + 1 : Nat) : Int)), (7, _), (6, _), (3, _)], ?_, ⟨rfl, rfl, rfl, rfl, trivial⟩, ⟨k + 1, a2, c2, rfl, rfl, by omega, fun h => absurd h (by omega), hS⟩⟩
   omega
 · obtain rfl : k = n := by omega
   rw [List.take_of_length_le (by rw [List.length_map]; omega)] at hS
   cases es with
   | nil =>
     obtain rfl : k = 0 := hl.symm
     obtain rfl := ha rfl
     repeat' ((conv => whnf); first | refine RetC.mk ?_ | refine nzO ?_ | refine rgO ?_ | refine ixO ?_ | (first|apply brD|apply brND|apply brN|apply brI) <;> (intro))
     exact ⟨rfl, hS.ext⟩
   | cons x es =>
     obtain ⟨b, rfl⟩ := ownT_some (hS.get 0 rfl) (by simp)
     have hcap := ownT_cap (hS.get 0 rfl)
     have hcells : CellsAt w1 b 0 (((x :: es).map evT1).map fun l => .string (bs l)) := by
       have := own_cells codT (hS.get 0 rfl)
       rwa [flat_encT] at this
     have hjl := join_lenN (n := 43) (sep := [44, 32]) (xs := (x :: es).map evT1) fun y hy => by
       obtain ⟨e, he, rfl⟩ := List.mem_map.1 hy
       exact evT1_len (hgood e he)
     have hml : ((x :: es).map evT1).length = k := by rw [List.length_map]; exact hl
     have hk0 : 0 < k := by rw [← hl]; exact Nat.succ_pos _
     rw [hml] at hjl
     have h43 : k * (43 + [44, 32].length) ≤ 1000 * 45 := Nat.mul_le_mul hn (Nat.le_refl _)
     conv=>whnf
     refine (join_ok ((x :: es).map evT1) [44, 32] _ hml hcells hk0 hcap (by omega) (by omega)).mono ?_
     rintro v w2 ⟨rfl, hx'⟩
     replace hS := hS.no hx'
     repeat' ((conv => whnf); first | refine RetC.mk ?_ | refine nzO ?_ | refine rgO ?_ | refine ixO ?_ | (first|apply brD|apply brND|apply brN|apply brI) <;> (intro))
     exact ⟨rfl, hS.ext⟩
end
end Go.Proofs.YtogjajjdaoihdaaGreatDoor

namespace Go.Proofs.YtogjajjdaoihdaaGreatDoor
set_option maxRecDepth 20000
open Go Ev
section
variable {w w' : World} {X : WorldA} {W : WorldS} {E : Nat → Addr} {q m bp n c : Nat} {a : Option Addr} {xs : List Int}
theorem Stands.node (h : Stands E q m w X W) {x : Int} {N : NodeS} (hx : x = 0 ∨ x = 1) (hN : (W.side x).node = some N) : Has w (nodeH (X.side x).A N) ∧ NOk m N := by
 refine ⟨?_, ((h.ok.side hx).node N hN).1⟩
 have h1 := (h.half hx).1
 rw [half_up hN] at h1
 have h2 : Has w (nodeH (X.side x).A N ++ [blk (X.side x).A.b 253 (encBy (W.side x).byt)]) := h1.right
 exact h2.left
def Asks (w : World) (X : WorldA) (W : WorldS) (m : Nat) (f : FuncId) (fN : NodeS → Int) : Prop := ∀ (x : Int) (N : NodeS) (w' : World), Ext No w w' → (W.side x).node = some N → Has w' (nodeH (X.side x).A N) → NOk m N → CallC Tryz.prog f #[.pointer (some ⟨(X.side x).A.n, 0, none⟩)] w' fun v w'' => v = .int .i64 (fN N) ∧ Ext No w' w''
theorem asks_flows : Asks w X W m 161 (fun N => (flowsN N.tab.cells : Nat)) := by
 intro x N w' _ _ hH hO
 refine fn_intro tabOk Tryz.func161 (by kernel_rfl) rfl Tryz.ntmps161 (lbO rfl) ?_
 have hS := St.start w' No
 conv=>whnf
 refine (ntable_ok hH hO.tab.len).mono ?_
 rintro v w2 ⟨a', c', rfl, hx, ho, hf⟩
 replace hS := hS.no hx
 conv=>whnf
 refine (sflows_ok (ownL_slc (G := fun _ => True) codCell ho (fun _ _ => trivial)) (by omega)).mono ?_
 rintro v w3 ⟨rfl, hx⟩
 replace hS := hS.no hx
 repeat' ((conv => whnf); first | refine RetC.mk ?_ | refine nzO ?_ | refine rgO ?_ | refine ixO ?_ | (first|apply brD|apply brND|apply brN|apply brI) <;> (intro))
 exact ⟨rfl, hS.ext⟩
theorem asks_mirror : Asks w X W m 164 (fun N => (flowsN N.mir.cells : Nat)) := by
 intro x N w' _ _ hH hO
 refine fn_intro tabOk Tryz.func164 (by kernel_rfl) rfl Tryz.ntmps164 (lbO rfl) ?_
 have hS := St.start w' No
 conv=>whnf
 refine (nmirror_ok hH hO.mir).mono ?_
 rintro v w2 ⟨a', c', rfl, hx, ho, hf⟩
 replace hS := hS.no hx
 conv=>whnf
 refine (sflows_ok (ownL_slc (G := fun _ => True) codCell ho (fun _ _ => trivial)) (by omega)).mono ?_
 rintro v w3 ⟨rfl, hx⟩
 replace hS := hS.no hx
 repeat' ((conv => whnf); first | refine RetC.mk ?_ | refine nzO ?_ | refine rgO ?_ | refine ixO ?_ | (first|apply brD|apply brND|apply brN|apply brI) <;> (intro))
 exact ⟨rfl, hS.ext⟩
theorem asks_epoch : Asks w X W m 166 (fun N => N.role.epoch) := by
 intro x N w' _ _ hH hO
 refine fn_intro tabOk Tryz.func166 (by kernel_rfl) rfl Tryz.ntmps166 (lbO rfl) ?_
 have hS := hH.start
 conv=>whnf
 refine hS.ld 0 rfl rfl ?_
 conv=>whnf
 refine (role_epoch (hS.blk 1 rfl)).mono ?_
 rintro v w2 ⟨rfl, rfl⟩
 repeat' ((conv => whnf); first | refine RetC.mk ?_ | refine nzO ?_ | refine rgO ?_ | refine ixO ?_ | (first|apply brD|apply brND|apply brN|apply brI) <;> (intro))
 exact ⟨rfl, Ext.refl _ _⟩
theorem asks_life : Asks w X W m 168 (fun N => (N.cell.li : Nat)) := by
 intro x N w' _ _ hH hO
 refine fn_intro tabOk Tryz.func168 (by kernel_rfl) rfl Tryz.ntmps168 (lbO rfl) ?_
 have hS := St.start w' No
 conv=>whnf
 refine (nlife_ok hH).mono ?_
 rintro v w2 ⟨rfl, hx⟩
 repeat' ((conv => whnf); first | refine RetC.mk ?_ | refine nzO ?_ | refine rgO ?_ | refine ixO ?_ | (first|apply brD|apply brND|apply brN|apply brI) <;> (intro))
 exact ⟨rfl, hx⟩
theorem ask_call {f : FuncId} {bf : Nat} {fN : NodeS → Int} (hf : Blk w bf 279 [fnV f []]) (h : Sits E q m w X W bp a 1 xs) (hP : Pow10 w) (hI : ∀ N, NOk m N → I64 (fN N)) (hk : Asks w X W m f fN) :
   CallC Tryz.prog 242 #[.pointer (some ⟨bp, 0, none⟩), .slice a 1 c, .pointer (some ⟨bf, 0, none⟩)] w (Plays E w X W (askS W (at0 xs 0) fN, W)) := by
 obtain ⟨b0, o0, x0, rfl, hat, hg, ho, hc⟩ := h.at0 (k := 0) (by omega)
 rw [at0_of hat]
 refine fn_intro tabOk Tryz.func242 (by kernel_rfl) rfl Tryz.ntmps242 (lbO rfl) ?_
 have hS := St.start w No
 conv=>whnf
 (refine drawS tabOk mixed [] (No) [0, 1, 2, 3, 4, 5, 6, 7, 8, 9, 10, 11, 12] (by kernel_rfl) ?_; rintro w1 rfl; replace hS := hS.drew)
 conv=>whnf
 refine Ev.ldFc h.cell id ?_
 conv=>whnf
 refine ixO ?_
 conv=>whnf
 refine Ev.ldFc hc id ?_
 conv=>whnf
 refine (wnode_ok x0 (h.st.no (Ext.drawn _ _ _))).mono ?_
 rintro v w2 ⟨rfl, hx⟩
 refine KeepC.mk hx ?_
 have hx2 : Ext No w w2 := (Ext.drawn No _ _).trans hx
 by_cases hu : W.upErr x0 = 0
 · obtain ⟨hn, N, hN⟩ := upErr_in hu
   obtain ⟨hH, hO⟩ := (h.st.no hx2).node hn hN
   have hi := hI N hO
   have hres : askS W x0 fN = (Lib.itoa (fN N), 0) := by
     unfold askS
     rw [hN]
     exact if_pos hu
   rw [hres, hu, if_pos rfl]
   conv=>whnf
   refine ldc ((hf.cell 0).trans rfl |> fun e => hx2.cell e id) ?_
   conv=>whnf
   refine (hk x0 N w2 hx2 hN hH hO).mono ?_
   rintro v w3 ⟨rfl, hx3⟩
   replace hx2 := hx2.trans hx3
   conv=>whnf
   refine (itoa_ok _ hi.1 hi.2 _ (hP.no hx2)).mono ?_
   rintro v w4 ⟨rfl, hx4⟩
   replace hx2 := hx2.trans hx4
   repeat' ((conv => whnf); first | refine RetC.mk ?_ | refine nzO ?_ | refine rgO ?_ | refine ixO ?_ | (first|apply brD|apply brND|apply brN|apply brI) <;> (intro))
   exact ⟨rfl, X, rfl, Turns.of_no h.st.has hx2⟩
 · have hres : askS W x0 fN = ([], W.upErr x0) := by
     unfold askS
     split
     · rfl
     · rw [if_neg hu]
   rw [hres, if_neg hu]
   obtain ⟨j, hj⟩ : ∃ j, W.upErr x0 = j + 1 := ⟨W.upErr x0 - 1, by omega⟩
   rw [hj]
   repeat' ((conv => whnf); first | refine RetC.mk ?_ | refine nzO ?_ | refine rgO ?_ | refine ixO ?_ | (first|apply brD|apply brND|apply brN|apply brI) <;> (intro))
   exact ⟨rfl, X, rfl, Turns.of_no h.st.has hx2⟩
theorem look_fly (h : Sits E q m w X W bp a n xs) (hP : Pow10 w) : CallC Tryz.prog 153 #[.pointer (some ⟨bp, 0, none⟩), .slice a n c] w (Plays E w X W ((Lib.itoa (W.fly.length : Nat), 0), W)) := by
 have hfl := h.st.ok.fly
 refine fn_intro tabOk Tryz.func153 (by kernel_rfl) rfl Tryz.ntmps153 (lbO rfl) ?_
 conv=>whnf
 refine ldc h.cell ?_
 conv=>whnf
 refine (wfly_ok h.st.has).mono ?_
 rintro v w2 ⟨rfl, rfl⟩
 conv=>whnf
 refine (itoa_ok _ (by omega) (by omega) _ hP).mono ?_
 rintro v w2 ⟨rfl, hx⟩
 repeat' ((conv => whnf); first | refine RetC.mk ?_ | refine nzO ?_ | refine rgO ?_ | refine ixO ?_ | (first|apply brD|apply brND|apply brN|apply brI) <;> (intro))
 exact ⟨rfl, X, rfl, Turns.of_no h.st.has hx⟩
theorem look_switch (h : Sits E q m w X W bp a n xs) (hE : EpW W) (hP : Pow10 w) : CallC Tryz.prog 158 #[.pointer (some ⟨bp, 0, none⟩), .slice a n c] w (Plays E w X W ((if W.to < 0 then tNothing else Lib.itoa W.to ++ [32] ++ Lib.itoa W.epoch, 0), W)) := by
 have hto := h.st.ok.to
 have hep := hE.sw.i64
 have e1 := Lib.itoa_length_le W.to (by omega) (by omega)
 have e2 := Lib.itoa_length_le W.epoch hep.1 hep.2
 refine fn_intro tabOk Tryz.func158 (by kernel_rfl) rfl Tryz.ntmps158 (lbO rfl) ?_
 conv=>whnf
 refine ldc h.cell ?_
 conv=>whnf
 refine (wswitch_ok h.st.has).mono ?_
 rintro v w2 ⟨rfl, hx⟩
 conv=>whnf
 refine brD (fun h1 => ?_) (fun h1 => ?_)
 · rw [if_pos h1]
   repeat' ((conv => whnf); first | refine RetC.mk ?_ | refine nzO ?_ | refine rgO ?_ | refine ixO ?_ | (first|apply brD|apply brND|apply brN|apply brI) <;> (intro))
   exact ⟨rfl, X, rfl, Turns.of_no h.st.has hx⟩
 · rw [if_neg h1]
   conv=>whnf
   refine (itoa_ok _ (by omega) (by omega) _ (hP.no hx)).mono ?_
   rintro v w3 ⟨rfl, hx3⟩
   replace hx := hx.trans hx3
   conv=>whnf
   refine addS (b := [32]) (by simp; omega) ?_
   conv=>whnf
   refine (itoa_ok _ hep.1 hep.2 _ (hP.no hx)).mono ?_
   rintro v w4 ⟨rfl, hx4⟩
   replace hx := hx.trans hx4
   conv=>whnf
   refine addS (by simp; omega) ?_
   repeat' ((conv => whnf); first | refine RetC.mk ?_ | refine nzO ?_ | refine rgO ?_ | refine ixO ?_ | (first|apply brD|apply brND|apply brN|apply brI) <;> (intro))
   exact ⟨rfl, X, rfl, Turns.of_no h.st.has hx⟩
theorem look_events (h : Sits E q m w X W bp a n xs) (hE : EpW W) (hP : Pow10 w) : CallC Tryz.prog 170 #[.pointer (some ⟨bp, 0, none⟩), .slice a n c] w (Plays E w X W ((eventsT W.events, 0), W)) := by
 refine fn_intro tabOk Tryz.func170 (by kernel_rfl) rfl Tryz.ntmps170 (lbO rfl) ?_
 conv=>whnf
 refine ldc h.cell ?_
 conv=>whnf
 refine (wevents_ok h.st).mono ?_
 rintro v w2 ⟨a', c', rfl, hx, ho, hf⟩
 conv=>whnf
 refine (sevents_ok (ownL_slc codEv ho fun e he => ⟨by rcases (hE.ev e he).1 with h | h <;> rw [h] <;> exact ⟨by decide, by decide⟩, (hE.ev e he).2.i64⟩) h.st.ok.events (hP.no hx)).mono ?_
 rintro v w3 ⟨rfl, hx3⟩
 repeat' ((conv => whnf); first | refine RetC.mk ?_ | refine nzO ?_ | refine rgO ?_ | refine ixO ?_ | (first|apply brD|apply brND|apply brN|apply brI) <;> (intro))
 exact ⟨rfl, X, rfl, Turns.of_no h.st.has (hx.trans hx3)⟩
theorem look_active (h : Sits E q m w X W bp a 1 xs) : CallC Tryz.prog 155 #[.pointer (some ⟨bp, 0, none⟩), .slice a 1 c] w (Plays E w X W ((activeS W (at0 xs 0), 0), W)) := by
 obtain ⟨b0, o0, x0, rfl, hat, hg, ho, hc⟩ := h.at0 (k := 0) (by omega)
 rw [at0_of hat]
 refine fn_intro tabOk Tryz.func155 (by kernel_rfl) rfl Tryz.ntmps155 (lbO rfl) ?_
 have hS := St.start w No
 conv=>whnf
 (refine drawS tabOk mixed [] (No) [0, 1, 2, 3, 4, 5, 6, 7, 8, 9, 10, 11, 12] (by kernel_rfl) ?_; rintro w1 rfl; replace hS := hS.drew)
 conv=>whnf
 refine Ev.ldFc h.cell id ?_
 conv=>whnf
 refine ixO ?_
 conv=>whnf
 refine Ev.ldFc hc id ?_
 conv=>whnf
 refine (wnode_ok x0 (h.st.no (Ext.drawn _ _ _))).mono ?_
 rintro v w2 ⟨rfl, hx⟩
 refine KeepC.mk hx ?_
 have hx2 : Ext No w w2 := (Ext.drawn No _ _).trans hx
 by_cases hu : W.upErr x0 = 0
 · obtain ⟨hn, N, hN⟩ := upErr_in hu
   obtain ⟨hH, hO⟩ := (h.st.no hx2).node hn hN
   have hres : activeS W x0 = if N.role.active = true then tYes else tNo := by
     unfold activeS
     rw [hN]
     exact if_pos hu
   rw [hres, hu, if_pos rfl]
   have hS := hH.start
   conv=>whnf
   refine hS.ld 0 rfl rfl ?_
   conv=>whnf
   refine (role_active (hS.blk 1 rfl)).mono ?_
   rintro v w3 ⟨rfl, rfl⟩
   conv=>whnf
   refine brI (fun h1 => ?_) (fun h1 => ?_)
   · rw [if_pos h1]
     repeat' ((conv => whnf); first | refine RetC.mk ?_ | refine nzO ?_ | refine rgO ?_ | refine ixO ?_ | (first|apply brD|apply brND|apply brN|apply brI) <;> (intro))
     exact ⟨rfl, X, rfl, Turns.of_no h.st.has hx2⟩
   · rw [if_neg (by rw [h1]; decide)]
     repeat' ((conv => whnf); first | refine RetC.mk ?_ | refine nzO ?_ | refine rgO ?_ | refine ixO ?_ | (first|apply brD|apply brND|apply brN|apply brI) <;> (intro))
     exact ⟨rfl, X, rfl, Turns.of_no h.st.has hx2⟩
 · have hres : activeS W x0 = tDown := by
     unfold activeS
     split
     · rfl
     · rw [if_neg hu]
   rw [hres, if_neg hu]
   obtain ⟨j, hj⟩ : ∃ j, W.upErr x0 = j + 1 := ⟨W.upErr x0 - 1, by omega⟩
   rw [hj]
   repeat' ((conv => whnf); first | refine RetC.mk ?_ | refine nzO ?_ | refine rgO ?_ | refine ixO ?_ | (first|apply brD|apply brND|apply brN|apply brI) <;> (intro))
   exact ⟨rfl, X, rfl, Turns.of_no h.st.has hx2⟩
theorem look_all (h : Sits E q m w X W bp a n xs) (hP : ∀ w' X' W', X'.w = X.w → Turns w w' (worldH X W) (worldH X' W') → Pow10 w') : CallC Tryz.prog 151 #[.pointer (some ⟨bp, 0, none⟩), .slice a n c] w (Plays E w X W ((Lib.itoa (W.fly.length : Nat), 0), W.land W.fly.length)) := by
 have hfl := h.st.ok.fly
 have hcell := h.cell
 have hplo := h.plo
 have hst0 := h.st
 refine fn_intro tabOk Tryz.func151 (by kernel_rfl) rfl Tryz.ntmps151 (lbO rfl) ?_
 conv=>whnf
 refine loopR tabOk (fun σ w' r => ∃ (i : Nat) (X4 : WorldA) (V4 : WorldS), σ = [(6, .int .i64 i), (0, .pointer (some ⟨bp, 0, none⟩))] ∧ r = V4.fly.length ∧ i + V4.fly.length = W.fly.length ∧ X4.w = X.w ∧ Stands E q m w' X4 V4 ∧ Turns w w' (worldH X W) (worldH X4 V4) ∧ W.land W.fly.length = V4.land V4.fly.length)
   (σ' := [(6, .int .i64 ((0 : Nat) : Int)), (0, .pointer (some ⟨bp, 0, none⟩))]) (n := W.fly.length) ⟨rfl, rfl, trivial⟩ ⟨0, X, W, rfl, rfl, Nat.zero_add _, rfl, hst0, Turns.refl hst0.has, rfl⟩ ?_
 rintro _ w4 r ⟨i, X4, V4, rfl, rfl, hi, hw4, hst4, hT4, hr4⟩
 have hcell4 : w4.cell? ⟨bp, 0, none⟩ = some (.pointer (some ⟨X4.w, 0, none⟩)) := by rw [hw4]; exact hT4.ext.cell hcell hplo
 conv=>whnf
 refine ldc hcell4 ?_
 conv=>whnf
 refine (wdeliver_ok 0 hst4).mono ?_
 rintro v w5 ⟨rfl, X5, hw5, hT5⟩
 cases hf : V4.fly.length with
 | zero =>
   rw [deliver_none hf] at hT5 ⊢
   have hT6 := hT4.trans hT5
   conv=>whnf
   obtain rfl : i = W.fly.length := by omega
   refine (itoa_ok _ (by omega) (by omega) _ (hP _ _ _ (hw5.trans hw4) hT6)).mono ?_
   rintro v w6 ⟨rfl, hx⟩
   repeat' ((conv => whnf); first | refine RetC.mk ?_ | refine nzO ?_ | refine rgO ?_ | refine ixO ?_ | (first|apply brD|apply brND|apply brN|apply brI) <;> (intro))
   rw [hr4, hf]
   exact ⟨rfl, X5, hw5.trans hw4, hT6.trans (Turns.of_no hT6.has hx)⟩
 | succ l =>
   obtain ⟨hd1, hd2⟩ := deliver0 hf
   rw [hd1]
   conv=>whnf
   refine rgO ?_
   conv=>whnf
   refine LoopE.mk ⟨_, [(6, .int .i64 ((i + 1 : Nat) : Int)), (0, _)], ?_, ⟨rfl, rfl, trivial⟩, ⟨i + 1, X5, (V4.deliver 0).2, rfl, rfl, by omega, hw5.trans hw4, hst4.turns hT5 (hst4.ok.deliver 0), hT4.trans hT5, ?_⟩⟩
   · omega
   · rw [hr4, hf, hd2]
     show (if V4.fly.length = 0 then _ else _) = _
     rw [if_neg (by omega)]
end
end Go.Proofs.YtogjajjdaoihdaaGreatDoor
