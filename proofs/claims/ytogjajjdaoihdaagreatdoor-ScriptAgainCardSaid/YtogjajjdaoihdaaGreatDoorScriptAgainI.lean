/-
  Texts of this claim, joined: ScrE, ScrF, ScrG, ScrR, ScrH, ScrI, RefReadD, RefReadE, LawS, ScrL, PolicyLaw, ScrX, ScrY, ScriptAgain.
-/
import Derived.Test.YtogjajjdaoihdaaGreatDoorScriptAgainH
import Derived.Shelf.Vars
import Derived.Lay
import Derived.LaidHandle

namespace Go.Proofs.YtogjajjdaoihdaaGreatDoor
set_option maxRecDepth 20000
open Go Ev
section
variable {w w' : World} {X : WorldA} {W : WorldS} {E : Nat → Addr} {q m bp n c : Nat} {a : Option Addr} {xs : List Int} {W0 : World}
theorem NOk.asks {N : NodeS} (h : NOk m N) : I64 (flowsN N.tab.cells : Nat) ∧ I64 (flowsN N.mir.cells : Nat) ∧ I64 N.role.epoch ∧ I64 (N.cell.li : Nat) := by
 have h1 := flowsN_le N.tab.cells
 have h2 := flowsN_le N.mir.cells
 have h3 := h.tab.len
 have h4 := h.mir
 have h5 := h.role.e0
 have h6 := h.role.e1
 have h7 := h.li
 exact ⟨⟨by omega, by omega⟩, ⟨by omega, by omega⟩, ⟨by omega, by omega⟩, ⟨by omega, by omega⟩⟩
def Runs (E : Nat → Addr) (q m : Nat) (X : WorldA) (W : WorldS) (w : World) (d : Cmd) (cs : List Value) : Prop :=
 (∃ f, cs = [.string (bs d.form), fnV f []] ∧ ∀ {w' : World} {bp c : Nat} {a : Option Addr} {xs : List Int}, Ext No w w' → Sits E q m w' X W bp a d.form.length xs → (d = .tick → m + 34 * (at0 xs 1).toNat ≤ 40000000) → CallC Tryz.prog f #[.pointer (some ⟨bp, 0, none⟩), .slice a d.form.length c] w' (Plays E w' X W (d.does xs W))) ∨
 (∃ f b, cs = [.string (bs d.form), fnV f [.pointer (some ⟨b, 0, none⟩)]] ∧ ∀ {w' : World} {bp c : Nat} {a : Option Addr} {xs : List Int}, Ext No w w' → Sits E q m w' X W bp a d.form.length xs → (d = .tick → m + 34 * (at0 xs 1).toNat ≤ 40000000) → CallC Tryz.prog f #[.pointer (some ⟨bp, 0, none⟩), .slice a d.form.length c, .pointer (some ⟨b, 0, none⟩)] w' (Plays E w' X W (d.does xs W)))
theorem IsAct.runs {d : Cmd} {cs : List Value} (hd : d ∈ actsL) (h : IsAct w d cs) : Runs E q m X W w d cs := by
 obtain ⟨b, rfl, hB⟩ := h
 exact .inr ⟨_, b, rfl, fun hx hs hm => one_call hd (hx.blk hB id) hs rfl hm⟩
theorem IsLook.runs {d : Cmd} {cs : List Value} (hd : d ∈ looksL) (h : IsLook w d cs) (hE : EpW W) (hP : ∀ w', Ext No w w' → Pow10 w') (hA : ∀ w2 w' X' W', Ext No w w2 → X'.w = X.w → Turns w2 w' (worldH X W) (worldH X' W') → Pow10 w') : Runs E q m X W w d cs := by
 unfold IsLook at h
 simp only [looksL, List.mem_cons, List.not_mem_nil, or_false] at hd
 rcases hd with rfl | rfl | rfl | rfl | rfl | rfl | rfl | rfl | rfl
 · rw [if_neg (by decide)] at h
   exact .inl ⟨_, h, fun hx hs _ => look_all hs fun w' X' W' hw k => hA _ w' X' W' hx hw k⟩
 · rw [if_neg (by decide)] at h
   exact .inl ⟨_, h, fun hx hs _ => look_fly hs (hP _ hx)⟩
 · rw [if_neg (by decide)] at h
   exact .inl ⟨_, h, fun hx hs _ => look_active hs⟩
 · rw [if_neg (by decide)] at h
   exact .inl ⟨_, h, fun hx hs _ => look_switch hs hE (hP _ hx)⟩
 · rw [if_pos (by decide)] at h
   obtain ⟨b, rfl, hB⟩ := h
   exact .inr ⟨_, b, rfl, fun hx hs _ => ask_call (hx.blk hB id) hs (hP _ hx) (fun N hN => hN.asks.1) asks_flows⟩
 · rw [if_pos (by decide)] at h
   obtain ⟨b, rfl, hB⟩ := h
   exact .inr ⟨_, b, rfl, fun hx hs _ => ask_call (hx.blk hB id) hs (hP _ hx) (fun N hN => hN.asks.2.1) asks_mirror⟩
 · rw [if_pos (by decide)] at h
   obtain ⟨b, rfl, hB⟩ := h
   exact .inr ⟨_, b, rfl, fun hx hs _ => ask_call (hx.blk hB id) hs (hP _ hx) (fun N hN => hN.asks.2.2.1) asks_epoch⟩
 · rw [if_pos (by decide)] at h
   obtain ⟨b, rfl, hB⟩ := h
   exact .inr ⟨_, b, rfl, fun hx hs _ => ask_call (hx.blk hB id) hs (hP _ hx) (fun N hN => hN.asks.2.2.2) asks_life⟩
 · rw [if_neg (by decide)] at h
   exact .inl ⟨_, h, fun hx hs _ => look_events hs hE (hP _ hx)⟩
theorem carry_bad {s : List UInt8} {p : PktS} {f : PktS → Nat × PktS × WorldS} (h : readPk s = (p, false)) : carryS s f W = (([], 1), W) := by
 unfold carryS
 rw [h]
 exact if_pos rfl
theorem carry_err {s : List UInt8} {p : PktS} {f : PktS → Nat × PktS × WorldS} (h : readPk s = (p, true)) (he : (f p).1 ≠ 0) : carryS s f W = (([], (f p).1), (f p).2.2) := by
 unfold carryS
 rw [h, if_neg (fun h => by cases h), if_pos he]
theorem carry_good {s : List UInt8} {p : PktS} {f : PktS → Nat × PktS × WorldS} (h : readPk s = (p, true)) (he : (f p).1 = 0) : carryS s f W = ((if (f p).2.1.err = 0 then (f p).2.1.text else [], (f p).2.1.err), (f p).2.2) := by
 unfold carryS
 rw [h, if_neg (fun h => by cases h), if_neg (fun h => h he)]
theorem scarry_inside (B : Base E W0) (h : Stands E W0.heap.size m w X W) (hx0 : Ext No W0 w) (s : List UInt8) (hl : s.length ≤ 100000) (hm : m + 1 ≤ 50000000) :
   CallC Tryz.prog 76 #[.pointer (some ⟨bp, 0, none⟩), .string (bs s), .func (.func 77) #[.pointer (some ⟨X.w, 0, none⟩)] #[]] w (Plays E w X W (carryS s W.inside W)) := by
 refine fn_intro tabOk Tryz.func76 (by kernel_rfl) rfl Tryz.ntmps76 (lbO rfl) ?_
 have hS := St.start w No
 conv=>whnf
 refine (packetRead_ok s hl w (B.maxl.no hx0) (B.numv.no hx0) (B.pow.no hx0) (B.names.no hx0) ((B.errs.ext hx0 fun _ h => h.elim).sub rfl)).mono ?_
 rintro v w1 ⟨⟨p, k, rfl, hp⟩, hx⟩
 replace hS := hS.no hx
 have hrd := readPk_of hp
 conv=>whnf
 refine hS.new (fun b8 w' hb8 hS => ?_)
 conv=>whnf
 refine hS.st 0 rfl (lbO rfl) rfl (fun w' hS => ?_)
 replace hS : St w No w' [blk b8 41 (encPkt p)] := hS
 cases k with
 | false =>
   rw [carry_bad hrd]
   repeat' ((conv => whnf); first | refine RetC.mk ?_ | refine nzO ?_ | refine rgO ?_ | refine ixO ?_ | (first|apply brD|apply brND|apply brN|apply brI) <;> (intro))
   exact ⟨rfl, X, rfl, Turns.of_no h.has hS.ext⟩
 | true =>
   conv=>whnf
   refine hS.laX 0 rfl rfl ?_
   conv=>whnf
   refine (winside_ok p (h.no hS.ext) hm).mono ?_
   rintro v w2 ⟨rfl, hk⟩
   have hT := (Turns.of_no h.has hS.ext).trans hk
   have hx2 := h.base hx0 hT
   have hce := @carry_err W s p W.inside hrd
   have hcg := @carry_good W s p W.inside hrd
   generalize W.inside p = R at hk hT hce hcg ⊢
   obtain ⟨e, y, W'⟩ := R
   dsimp only at hk hT hce hcg ⊢
   have hS2 := St.start w2 No
   conv=>whnf
   refine hS2.new (fun b10 w' hb10 hS => ?_)
   conv=>whnf
   refine hS.st 0 rfl (lbO rfl) rfl (fun w' hS => ?_)
   replace hS : St w2 No w' [blk b10 41 (encPkt y)] := hS
   cases e with
   | succ j =>
     rw [hce (Nat.succ_ne_zero j)]
     repeat' ((conv => whnf); first | refine RetC.mk ?_ | refine nzO ?_ | refine rgO ?_ | refine ixO ?_ | (first|apply brD|apply brND|apply brN|apply brI) <;> (intro))
     exact ⟨rfl, X, rfl, hT.trans (Turns.of_no hT.has hS.ext)⟩
   | zero =>
     rw [hcg rfl]
     conv=>whnf
     refine hS.laX 0 rfl rfl ?_
     conv=>whnf
     have hx3 := hx2.trans hS.ext
     refine (ptextP_ok y _ ((B.errs.ext hx3 fun _ h => h.elim).sub rfl) (B.pow.no hx3) (B.names.no hx3)).mono ?_
     rintro v w4 ⟨rfl, hx4⟩
     replace hS := hS.no hx4
     repeat' ((conv => whnf); first | refine RetC.mk ?_ | refine nzO ?_ | refine rgO ?_ | refine ixO ?_ | (first|apply brD|apply brND|apply brN|apply brI) <;> (intro))
     exact ⟨rfl, X, rfl, hT.trans (Turns.of_no hT.has hS.ext)⟩
theorem scarry_outside (B : Base E W0) (h : Stands E W0.heap.size m w X W) (hx0 : Ext No W0 w) (s : List UInt8) (hl : s.length ≤ 100000) (hm : m + 1 ≤ 50000000) :
   CallC Tryz.prog 76 #[.pointer (some ⟨bp, 0, none⟩), .string (bs s), .func (.func 78) #[.pointer (some ⟨X.w, 0, none⟩)] #[]] w (Plays E w X W (carryS s W.outside W)) := by
 refine fn_intro tabOk Tryz.func76 (by kernel_rfl) rfl Tryz.ntmps76 (lbO rfl) ?_
 have hS := St.start w No
 conv=>whnf
 refine (packetRead_ok s hl w (B.maxl.no hx0) (B.numv.no hx0) (B.pow.no hx0) (B.names.no hx0) ((B.errs.ext hx0 fun _ h => h.elim).sub rfl)).mono ?_
 rintro v w1 ⟨⟨p, k, rfl, hp⟩, hx⟩
 replace hS := hS.no hx
 have hrd := readPk_of hp
 conv=>whnf
 refine hS.new (fun b8 w' hb8 hS => ?_)
 conv=>whnf
 refine hS.st 0 rfl (lbO rfl) rfl (fun w' hS => ?_)
 replace hS : St w No w' [blk b8 41 (encPkt p)] := hS
 cases k with
 | false =>
   rw [carry_bad hrd]
   repeat' ((conv => whnf); first | refine RetC.mk ?_ | refine nzO ?_ | refine rgO ?_ | refine ixO ?_ | (first|apply brD|apply brND|apply brN|apply brI) <;> (intro))
   exact ⟨rfl, X, rfl, Turns.of_no h.has hS.ext⟩
 | true =>
   conv=>whnf
   refine hS.laX 0 rfl rfl ?_
   conv=>whnf
   refine (woutside_ok p (h.no hS.ext) hm).mono ?_
   rintro v w2 ⟨rfl, hk⟩
   have hT := (Turns.of_no h.has hS.ext).trans hk
   have hx2 := h.base hx0 hT
   have hce := @carry_err W s p W.outside hrd
   have hcg := @carry_good W s p W.outside hrd
   generalize W.outside p = R at hk hT hce hcg ⊢
   obtain ⟨e, y, W'⟩ := R
   dsimp only at hk hT hce hcg ⊢
   have hS2 := St.start w2 No
   conv=>whnf
   refine hS2.new (fun b10 w' hb10 hS => ?_)
   conv=>whnf
   refine hS.st 0 rfl (lbO rfl) rfl (fun w' hS => ?_)
   replace hS : St w2 No w' [blk b10 41 (encPkt y)] := hS
   cases e with
   | succ j =>
     rw [hce (Nat.succ_ne_zero j)]
     repeat' ((conv => whnf); first | refine RetC.mk ?_ | refine nzO ?_ | refine rgO ?_ | refine ixO ?_ | (first|apply brD|apply brND|apply brN|apply brI) <;> (intro))
     exact ⟨rfl, X, rfl, hT.trans (Turns.of_no hT.has hS.ext)⟩
   | zero =>
     rw [hcg rfl]
     conv=>whnf
     refine hS.laX 0 rfl rfl ?_
     conv=>whnf
     have hx3 := hx2.trans hS.ext
     refine (ptextP_ok y _ ((B.errs.ext hx3 fun _ h => h.elim).sub rfl) (B.pow.no hx3) (B.names.no hx3)).mono ?_
     rintro v w4 ⟨rfl, hx4⟩
     replace hS := hS.no hx4
     repeat' ((conv => whnf); first | refine RetC.mk ?_ | refine nzO ?_ | refine rgO ?_ | refine ixO ?_ | (first|apply brD|apply brND|apply brN|apply brI) <;> (intro))
     exact ⟨rfl, X, rfl, hT.trans (Turns.of_no hT.has hS.ext)⟩
end
end Go.Proofs.YtogjajjdaoihdaaGreatDoor

namespace Go.Proofs.YtogjajjdaoihdaaGreatDoor
set_option maxRecDepth 20000
open Go Ev
theorem play_in {l : List UInt8} {W : WorldS} (h : (Lib.cut l [32]).1 = wInside) : playS l W = carryS (Lib.cut l [32]).2.1 W.inside W := by
 unfold playS
 rw [if_pos h]
theorem play_out {l : List UInt8} {W : WorldS} (h : (Lib.cut l [32]).1 ≠ wInside) (h2 : (Lib.cut l [32]).1 = wOutside) : playS l W = carryS (Lib.cut l [32]).2.1 W.outside W := by
 unfold playS
 rw [if_neg h, if_pos h2]
theorem play_none {l : List UInt8} {W : WorldS} (h : (Lib.cut l [32]).1 ≠ wInside) (h2 : (Lib.cut l [32]).1 ≠ wOutside) (h3 : cmdOf ((cutR 32 l).headD []) = none) : playS l W = (([], 1), W) := by
 unfold playS
 rw [if_neg h, if_neg h2, h3]
theorem play_bad {l : List UInt8} {W : WorldS} {d : Cmd} (h : (Lib.cut l [32]).1 ≠ wInside) (h2 : (Lib.cut l [32]).1 ≠ wOutside) (h3 : cmdOf ((cutR 32 l).headD []) = some d) (h4 : numsS d.form ((cutR 32 l).drop 1) = none) : playS l W = (([], 1), W) := by
 unfold playS
 rw [if_neg h, if_neg h2, h3]
 dsimp only
 rw [h4]
theorem play_cmd {l : List UInt8} {W : WorldS} {d : Cmd} {xs : List Int} (h : (Lib.cut l [32]).1 ≠ wInside) (h2 : (Lib.cut l [32]).1 ≠ wOutside) (h3 : cmdOf ((cutR 32 l).headD []) = some d) (h4 : numsS d.form ((cutR 32 l).drop 1) = some xs) : playS l W = d.does xs W := by
 unfold playS
 rw [if_neg h, if_neg h2, h3]
 dsimp only
 rw [h4]
theorem ticks_of {l : List UInt8} {d : Cmd} {xs : List Int} (h3 : cmdOf ((cutR 32 l).headD []) = some d) (h4 : numsS d.form ((cutR 32 l).drop 1) = some xs) (hd : d = .tick) : ticksOf l = (at0 xs 1).toNat := by
 subst hd
 unfold ticksOf
 rw [h3]
 dsimp only
 rw [h4]
theorem findC_mem {s : List UInt8} {d : Cmd} : ∀ {L : List Cmd}, findC s L = some d → d ∈ L ∧ s = d.word
 | [], h => by cases h
 | c :: L, h => by
   unfold findC at h
   split at h
   · cases h
     rename_i e
     exact ⟨List.mem_cons_self, e⟩
   · exact ⟨List.mem_cons_of_mem _ (findC_mem h).1, (findC_mem h).2⟩
theorem cmdOf_act {s : List UInt8} {d : Cmd} (h : findC s actsL = some d) : cmdOf s = some d := by
 unfold cmdOf
 rw [h]
theorem cmdOf_look {s : List UInt8} (h : findC s actsL = none) : cmdOf s = findC s looksL := by
 unfold cmdOf
 rw [h]
section
variable {w w' : World} {r : Nat} {L : List Cmd} {I : World → Cmd → List Value → Prop}
theorem IsAct.keep {d : Cmd} {cs : List Value} {b10 : Nat} {vs : List Value} (h : IsAct w d cs) (hx : Ext (· = b10) w w') (hb : Blk w b10 176 vs) : IsAct w' d cs := by
 obtain ⟨b, e, hB⟩ := h
 exact ⟨b, e, hx.blk hB (hB.ne hb (by decide))⟩
theorem IsLook.keep {d : Cmd} {cs : List Value} {b10 : Nat} {vs : List Value} (h : IsLook w d cs) (hx : Ext (· = b10) w w') (hb : Blk w b10 176 vs) : IsLook w' d cs := by
 unfold IsLook at h ⊢
 split at h
 · rename_i e
   rw [if_pos e]
   obtain ⟨b, e, hB⟩ := h
   exact ⟨b, e, hx.blk hB (hB.ne hb (by decide))⟩
 · rename_i e
   rw [if_neg e]
   exact h
theorem IsAct.no {d : Cmd} {cs : List Value} (h : IsAct w d cs) (hx : Ext No w w') : IsAct w' d cs := by
 obtain ⟨b, e, hB⟩ := h
 exact ⟨b, e, hx.blk hB id⟩
theorem Finds.no (h : Finds w r L I) (hI : ∀ {d cs}, I w d cs → I w' d cs) (hx : Ext No w w') : Finds w' r L I := by
 obtain ⟨l, n, hb, hall⟩ := h
 refine ⟨l, n, (hx.block r (Array.getElem?_eq_some_iff.1 hb).1 id).trans hb, fun s => ?_⟩
 rcases hall s with h | ⟨d, i, cs, h1, h2, h3, h4⟩
 · exact .inl h
 · exact .inr ⟨d, i, cs, h1, h2, h3, hI h4⟩
theorem Finds.look (h : Finds w r L I) (s : List UInt8) {k : Value → World → Prop} (h1 : findC s L = none → k (.tuple #[.agg #[.string (bs []), .nilFunc], .bool false]) w) (h2 : ∀ d cs, findC s L = some d → I w d cs → k (.tuple #[.agg cs.toArray, .bool true]) w) :
   RunC Tryz.prog (Instr.lookup 178 (.map (some r)) (.string (bs s)) true) w k := by
 obtain ⟨l, n, hb, hall⟩ := h
 refine ⟨_, _, mapLookS s hb, ?_⟩
 unfold sLook
 rcases hall s with ⟨e1, e2⟩ | ⟨d, i, cs, e1, _, e3, e4⟩
 · rw [e2]
   exact h1 e1
 · rw [e3]
   exact h2 d cs e1 e4
theorem Finds.lookA (h : Finds w r actsL IsAct) (s : List UInt8) {k : Value → World → Prop} (h1 : findC s actsL = none → k (.tuple #[.agg #[.string (bs []), .nilFunc], .bool false]) w)
   (h2 : ∀ d b, findC s actsL = some d → IsAct w d [.string (bs d.form), .func (.func 231) #[] #[.pointer (some ⟨b, 0, none⟩)]] → k (.tuple #[.agg #[.string (bs d.form), .func (.func 231) #[] #[.pointer (some ⟨b, 0, none⟩)]], .bool true]) w) :
   RunC Tryz.prog (Instr.lookup 178 (.map (some r)) (.string (bs s)) true) w k :=
 h.look s h1 fun d cs e hI => by
   obtain ⟨b, rfl, hB⟩ := hI
   exact h2 d b e ⟨b, rfl, hB⟩
theorem Finds.lookL (h : Finds w r looksL IsLook) (s : List UInt8) {k : Value → World → Prop} (h1 : findC s looksL = none → k (.tuple #[.agg #[.string (bs []), .nilFunc], .bool false]) w)
   (h2 : ∀ d b, findC s looksL = some d → IsLook w d [.string (bs d.form), .func (.func 242) #[] #[.pointer (some ⟨b, 0, none⟩)]] → k (.tuple #[.agg #[.string (bs d.form), .func (.func 242) #[] #[.pointer (some ⟨b, 0, none⟩)]], .bool true]) w)
   (h3 : ∀ d f, findC s looksL = some d → IsLook w d [.string (bs d.form), .func (.func f) #[] #[]] → k (.tuple #[.agg #[.string (bs d.form), .func (.func f) #[] #[]], .bool true]) w) :
   RunC Tryz.prog (Instr.lookup 178 (.map (some r)) (.string (bs s)) true) w k :=
 h.look s h1 fun d cs e hI => by
   have hI' := hI
   unfold IsLook at hI'
   split at hI'
   · obtain ⟨b, rfl, hB⟩ := hI'
     exact h2 d b e hI
   · subst hI'
     exact h3 d _ e hI
end
theorem Ev.St.newX {w0 w1 w : World} {S T : Nat → Prop} {H : List Ent} (h : St w0 S w H) (hK : Ext T w1 w) {t : TypeId} {cs : List Value} {k : Value → World → Prop} (hk : ∀ b w', w.heap.size ≤ b → Ext No w w' → Ext T w1 w' → St w0 S w' (H ++ [Ev.blk b t cs]) → k (.pointer (some ⟨b, 0, none⟩)) w') : NewC w t cs k := by
 refine ⟨hk w.heap.size _ (Nat.le_refl _) (Ext.push _ _ _ _) (hK.trans (Ext.push _ _ _ _)) (h.made (Ext.push _ _ _ _) (blk_local _ _ _) (show (w.heap.push _)[w.heap.size]? = _ by rw [Array.getElem?_push, if_pos rfl]) ?_)⟩
 intro b hb
 obtain rfl : b = w.heap.size := by simpa [Ev.blk] using hb
 simp [pushBlk]
theorem Ev.St.stY {w0 w1 w : World} {S T : Nat → Prop} {H : List Ent} (h : St w0 S w H) (hK : Ext T w1 w) (i : Nat) {b o : Nat} {t : TypeId} {cs vs : List Value} {k : World → Prop} (hi : H[i]? = some (Ev.blk b t cs)) (hle : o + vs.length ≤ cs.length) (h1 : vs.all isOne = true) (hT : T b)
   (hk : ∀ w', Ext (· = b) w w' → Ext T w1 w' → St w0 S w' (H.set i (Ev.blk b t (over cs o vs))) → k w') : StC w b o vs k := by
 have hb := h.blk i hi
 have hx : Ext (· = b) w (setBlk w b t (over cs o vs)) := Ext.set (S := (· = b)) (b := b) rfl t _
 exact ⟨t, cs, hb, hle, by simpa using h1, hk _ hx (hK.trans (hx.mono fun c hc => hc ▸ hT)) (h.upd i hi hx (fun c hc => by simp [Ev.blk, hc]) (blk_local _ _ _) (setBlk_blk hb.lt) (fun c hc => .inl hc))⟩
end Go.Proofs.YtogjajjdaoihdaaGreatDoor

namespace Go.Proofs.YtogjajjdaoihdaaGreatDoor
set_option maxRecDepth 20000
open Go Ev
section
variable {w w' : World} {X : WorldA} {W : WorldS} {E : Nat → Addr} {m bp : Nat} {W0 : World}
set_option maxHeartbeats 4000000 in
theorem splay_ok (B : Base E W0) (h : Stands E W0.heap.size m w X W) (hx0 : Ext No W0 w) (hply : Blk w bp 90 [.pointer (some ⟨X.w, 0, none⟩)]) (hplo : ¬ inF (worldH X W) bp) (hE : EpW W) (line : List UInt8) (hl : line.length ≤ 100000) (hm : m + (34 * ticksOf line + 1) ≤ 40000000) :
   CallC Tryz.prog 34 #[.pointer (some ⟨bp, 0, none⟩), .string (bs line)] w (Plays E w X W (playS line W)) := by
 have hcl : (Lib.cut line [32]).2.1.length ≤ line.length := by
   obtain ⟨x, y, k, e, _, h2⟩ := cut_small line 32
   rw [e]
   exact h2
 refine fn_intro tabOk Tryz.func34 (by kernel_rfl) rfl Tryz.ntmps34 (lbO rfl) ?_
 have hS := St.start w No
 conv=>whnf
 refine (cutT_ok line 32 w hl (B.maxl.no hx0)).mono ?_
 rintro v w1 ⟨rfl, hx1⟩
 replace hS := hS.no hx1
 conv=>whnf
 refine eqS2 (b := wInside) ?_
 conv=>whnf
 refine brD (fun hni => ?_) (fun hni => ?_)
 · skip
   rw [play_in hni]
   conv=>whnf
   refine ldc (hS.ext.cell (hply.cell 0) id) ?_
   conv=>whnf
   refine (scarry_inside B (h.no hS.ext) (hx0.trans hS.ext) _ (Nat.le_trans hcl hl) (by omega)).mono ?_
   rintro v w2 ⟨rfl, X', hw2, hT2⟩
   repeat' ((conv => whnf); first | refine RetC.mk ?_ | refine nzO ?_ | refine rgO ?_ | refine ixO ?_ | (first|apply brD|apply brND|apply brN|apply brI) <;> (intro))
   exact ⟨rfl, X', hw2, (Turns.of_no h.has hS.ext).trans hT2⟩
 conv=>whnf
 refine eqS2 (b := wOutside) ?_
 conv=>whnf
 refine brD (fun hno => ?_) (fun hno => ?_)
 · skip
   rw [play_out hni hno]
   conv=>whnf
   refine ldc (hS.ext.cell (hply.cell 0) id) ?_
   conv=>whnf
   refine (scarry_outside B (h.no hS.ext) (hx0.trans hS.ext) _ (Nat.le_trans hcl hl) (by omega)).mono ?_
   rintro v w2 ⟨rfl, X', hw2, hT2⟩
   repeat' ((conv => whnf); first | refine RetC.mk ?_ | refine nzO ?_ | refine rgO ?_ | refine ixO ?_ | (first|apply brD|apply brND|apply brN|apply brI) <;> (intro))
   exact ⟨rfl, X', hw2, (Turns.of_no h.has hS.ext).trans hT2⟩
 obtain ⟨t0, ws, hw⟩ := cutR_cons 32 line
 have hlen : ∀ t ∈ t0 :: ws, t.length ≤ 100000 := fun t ht => Nat.le_trans (cutR_mem_len (c := 32) (l := line) (hw ▸ ht)) hl
 have hwl : (t0 :: ws).length ≤ 100001 := by
   rw [← hw]
   exact Nat.le_trans (cutR_len 32 line) (by omega)
 conv=>whnf
 refine (split_ok line 32 w1 hl (B.maxl.no (hx0.trans hS.ext))).mono ?_
 rintro v w2 ⟨⟨bw, rfl, hbw, hB⟩, hx2⟩
 rw [hw] at hB ⊢
 replace hS := hS.made hx2 (blk_local _ _ _) hB (by intro g hg; obtain rfl := List.mem_singleton.1 hg; exact ⟨hbw, hB.lt⟩)
 replace hS : St w No w2 [blk bw 9 ((t0 :: ws).map fun l => .string (bs l))] := hS
 clear hx1 hx2 hB hbw
 obtain ⟨n, hnl⟩ : ∃ n, (t0 :: ws).length = n := ⟨_, rfl⟩
 rw [hnl] at hwl ⊢
 have hn1 : 1 ≤ n := by rw [← hnl]; exact Nat.succ_pos _
 have hP : ∀ w', Ext No w w' → Pow10 w' := fun w' hx => B.pow.no (hx0.trans hx)
 have hA : ∀ w2 w3 X' W', Ext No w w2 → X'.w = X.w → Turns w2 w3 (worldH X W) (worldH X' W') → Pow10 w3 := fun w2 w3 X' W' hx _ k => B.pow.no ((h.no hx).base (hx0.trans hx) k)
 conv=>whnf
 refine DrawC.cut (fun σ w' => ∃ b10 cs k, σ = [(11, .bool k), (10, .pointer (some ⟨b10, 0, none⟩)), (9, .slice (some ⟨bw, 0, none⟩) n n), (0, .pointer (some ⟨bp, 0, none⟩))] ∧ St w No w' [blk bw 9 ((t0 :: ws).map fun l => .string (bs l)), blk b10 176 cs] ∧ ((k = true ∧ ∃ d, findC t0 actsL = some d ∧ IsAct w' d cs) ∨ (k = false ∧ findC t0 actsL = none ∧ cs = [.string (bs []), .nilFunc]))) ?_ ?_
 · refine drawT tabOk mixed [] ((· ≠ bw)) (.take 1 (.take 2 (.take 3 (.alt 0 (.alt 4 (.take 5 (.take 6 (.take 7 (.alt 8 (.alt 9 (.take 10 .fin) .fin) .fin)))) (.alt 8 (.alt 4 (.take 5 (.take 6 (.take 7 (.alt 9 (.take 10 .fin) .fin)))) .fin) .fin)) (.alt 8 (.alt 0 (.alt 4 (.take 5 (.take 6 (.take 7 (.alt 9 (.take 10 .fin) .fin)))) .fin) .fin) .fin))))) (by kernel_rfl) ?_
   rintro w3 rfl
   replace hS := hS.drew
   have hK := hS.ref (· ≠ bw)
   repeat' ((conv => whnf); first | refine And.intro ?_ ?_ | refine ixO ?_ | refine hS.ldF 0 rfl (v := .string (bs t0)) rfl (fun h => h rfl) ?_ | (refine (acts_ok _).mono ?_; rintro v w5 ⟨⟨r, rfl, hfd⟩, hx'⟩; replace hS := hS.no hx'; replace hK := hK.trans hx'.of_no; clear hx'; refine KeepC.mk hK ?_) | (refine hS.newX hK (fun b10 w' hb10 hxn hK hS => KeepC.mk hK ?_); try (replace hfd := hfd.no (fun h => IsAct.no h hxn) hxn); try (replace hI := IsAct.no hI hxn)) | (refine hfd.lookA t0 (fun hd => KeepC.mk hK ?_) (fun d b hd hI => KeepC.mk hK ?_)) | (have hbq := hS.blk 1 rfl; refine hS.stY hK 1 rfl (lbO rfl) rfl (fun e => hS.ne 1 0 rfl rfl (by decide) e) (fun w' hxs hK hS => KeepC.mk hK ?_); try (replace hI := IsAct.keep hI hxs hbq)))
   all_goals first | exact CutE.mk ⟨[(11, _), (10, _), (9, _), (0, _)], ⟨rfl, rfl, rfl, rfl, trivial⟩, _, _, _, rfl, hS, .inr ⟨rfl, hd, rfl⟩⟩ | exact CutE.mk ⟨[(11, _), (10, _), (9, _), (0, _)], ⟨rfl, rfl, rfl, rfl, trivial⟩, _, _, _, rfl, hS, .inl ⟨rfl, _, hd, hI⟩⟩
 clear hS
 rintro _ w7 ⟨b10, cs, k, rfl, hS, hk⟩
 rcases hk with ⟨rfl, d, hd, hI⟩ | ⟨rfl, hna, rfl⟩
 · have hk : ((true = true ∧ ∃ d, cmdOf t0 = some d ∧ Runs E W0.heap.size m X W w7 d cs) ∨ (true = false ∧ cmdOf t0 = none)) := .inl ⟨rfl, d, cmdOf_act hd, hI.runs (findC_mem hd).1⟩
   clear hd hI
   obtain ⟨d, hd, hrun⟩ : ∃ d, cmdOf t0 = some d ∧ Runs E W0.heap.size m X W w7 d cs := by
     rcases hk with ⟨_, h⟩ | ⟨h, _⟩
     · exact h
     · cases h
   clear hk
   have hcase : ∃ f caps, cs = [.string (bs d.form), .func (.func f) #[] caps] := by
     rcases hrun with ⟨f, e, _⟩ | ⟨f, b, e, _⟩
     · exact ⟨f, _, e⟩
     · exact ⟨f, _, e⟩
   obtain ⟨f, caps, rfl⟩ := hcase
   have hsl : Slc w7 1 encT (fun t => t.length ≤ 100000) (some ⟨bw, 0, none⟩) n (t0 :: ws) := Slc.of_blk codT (hS.blk 0 rfl) hnl (by omega) (fun t ht => hlen t ht) (by rw [flat_encT, Nat.mul_one, List.drop_zero, List.take_of_length_le (by rw [List.length_map]; exact Nat.le_refl _)])
   have hne := hS.ne 1 0 rfl rfl (by decide)
   conv=>whnf
   (refine drawS tabOk mixed [] No [0, 1, 2, 3, 4, 5, 6, 7, 8, 9] (by kernel_rfl) ?_; rintro w1 rfl; replace hS := hS.drew)
   conv=>whnf
   refine hS.ldF 1 rfl rfl id ?_
   conv=>whnf
   refine slcTail (j := 1) (hsl.no (Ext.drawn No w7 (w7.drawn + 1))) (Nat.le_refl _) Tryz.underlying22 (by kernel_rfl) (by kernel_rfl) rfl hn1 (fun a1 c1 hsl1 hc1 => ?_)
   conv=>whnf
   refine (sread_ok d.form ws hsl1 (by cases d <;> decide) (fun t ht => hlen t (List.mem_cons_of_mem _ ht)) (B.numv.no (hx0.trans hS.ext)) (B.pow.no (hx0.trans hS.ext))).mono ?_
   rintro v w8 ⟨⟨a2, c2, xs, k2, rfl, hnum, hown, hfr⟩, hx8⟩
   refine KeepC.mk hx8 ?_
   have hfr2 : Fresh w w8 (.slice a2 xs.length c2) := fun g hg => ⟨Nat.le_trans hS.ext.size (hfr g hg).1, (hfr g hg).2⟩
   replace hS := hS.no hx8
   cases k2 with
   | false =>
     rw [if_neg (by decide)] at hnum
     rw [play_bad hni hno (by rw [hw]; exact hd) (by rw [hw]; exact hnum)]
     conv=>whnf
     conv=>whnf
     (refine drawS tabOk mixed [] No [0, 1, 2] (by kernel_rfl) ?_; rintro w1 rfl; replace hS := hS.drew)
     conv=>whnf
     refine Ev.ldFc ((B.errs.ext (hx0.trans hS.ext) fun _ h => h.elim).at_ 1 rfl) id ?_
     repeat' ((conv => whnf); first | refine RetC.mk ?_ | refine nzO ?_ | refine rgO ?_ | refine ixO ?_ | (first|apply brD|apply brND|apply brN|apply brI) <;> (intro))
     exact ⟨rfl, X, rfl, Turns.of_no h.has hS.ext⟩
   | true =>
     rw [if_pos rfl] at hnum
     obtain ⟨hxl, hxg⟩ := numsS_nonneg hnum
     rw [play_cmd hni hno (by rw [hw]; exact hd) (by rw [hw]; exact hnum)]
     have hsit : Sits E W0.heap.size m w8 X W bp a2 d.form.length xs := by
       refine ⟨h.no hS.ext, hS.ext.blk hply id, hplo, ?_, ?_⟩
       · rw [← hxl]
         refine ownL_slc codN hown (fun x hx => ?_)
         obtain ⟨i, hi⟩ := List.getElem?_of_mem hx
         exact ⟨(hxg i x hi).1, (hxg i x hi).2.1⟩
       · intro _ b0 o0 e hin
         obtain ⟨g, hg, hbg⟩ := hin
         have h1 := h.has.lt g hg b0 hbg
         have h2 := (hfr2 b0 (by rw [e]; rfl)).1
         omega
     have htk : d = .tick → m + 34 * (at0 xs 1).toNat ≤ 40000000 := fun e => by
       rw [← ticks_of (by rw [hw]; exact hd) (by rw [hw]; exact hnum) e]
       exact Nat.le_trans (by omega) hm
     rw [hxl]
     have hx78 := (Ext.drawn No w7 (w7.drawn + 1)).trans hx8
     rcases hrun with ⟨f2, e2, hc⟩ | ⟨f2, b2, e2, hc⟩
     · obtain ⟨rfl, rfl⟩ : f = f2 ∧ caps = #[] := by simpa [fnV] using e2
       conv=>whnf
       refine hS.ld 1 rfl rfl ?_
       conv=>whnf
       refine (hc hx78 hsit htk).mono ?_
       rintro v w9 ⟨rfl, X', hw9, hT9⟩
       repeat' ((conv => whnf); first | refine RetC.mk ?_ | refine nzO ?_ | refine rgO ?_ | refine ixO ?_ | (first|apply brD|apply brND|apply brN|apply brI) <;> (intro))
       exact ⟨rfl, X', hw9, (Turns.of_no h.has hS.ext).trans hT9⟩
     · obtain ⟨rfl, rfl⟩ : f = f2 ∧ caps = #[.pointer (some ⟨b2, 0, none⟩)] := by simpa [fnV] using e2
       conv=>whnf
       refine hS.ld 1 rfl rfl ?_
       conv=>whnf
       refine (hc hx78 hsit htk).mono ?_
       rintro v w9 ⟨rfl, X', hw9, hT9⟩
       repeat' ((conv => whnf); first | refine RetC.mk ?_ | refine nzO ?_ | refine rgO ?_ | refine ixO ?_ | (first|apply brD|apply brND|apply brN|apply brI) <;> (intro))
       exact ⟨rfl, X', hw9, (Turns.of_no h.has hS.ext).trans hT9⟩
 have hne := hS.ne 1 0 rfl rfl (by decide)
 have hne' := hS.ne 0 1 rfl rfl (by decide)
 conv=>whnf
 refine DrawC.cut (fun σ w' => ∃ cs k, σ = [(11, .bool k), (10, .pointer (some ⟨b10, 0, none⟩)), (9, .slice (some ⟨bw, 0, none⟩) n n), (0, .pointer (some ⟨bp, 0, none⟩))] ∧ St w No w' [blk bw 9 ((t0 :: ws).map fun l => .string (bs l)), blk b10 176 cs] ∧ ((k = true ∧ ∃ d, findC t0 looksL = some d ∧ IsLook w' d cs) ∨ (k = false ∧ findC t0 looksL = none))) ?_ ?_
 · (refine drawS tabOk mixed [] (fun b => b = b10) [1, 2, 3, 0, 4, 5, 6, 7, 8, 9] (by kernel_rfl) ?_; rintro w1 rfl; replace hS := hS.drew)
   have hK := hS.ref (fun b => b = b10)
   conv=>whnf
   refine ixO ?_
   conv=>whnf
   refine hS.ldF 0 rfl (v := .string (bs t0)) rfl hne' ?_
   conv=>whnf
   refine (looks_ok _).mono ?_
   rintro v w5 ⟨⟨r, rfl, hfd⟩, hx'⟩
   replace hS := hS.no hx'
   replace hK := hK.trans hx'.of_no
   clear hx'
   refine KeepC.mk hK ?_
   conv=>whnf
   refine hfd.lookL t0 (fun hd => KeepC.mk hK ?_) (fun d b hd hI => KeepC.mk hK ?_) (fun d f hd hI => KeepC.mk hK ?_)
   · (conv => whnf)
     refine hS.stY hK 1 rfl (lbO rfl) rfl rfl (fun w' hxs hK hS => KeepC.mk hK ?_)
     conv=>whnf
     exact CutE.mk ⟨[(11, _), (10, _), (9, _), (0, _)], ⟨rfl, rfl, rfl, rfl, trivial⟩, _, _, rfl, hS, .inr ⟨rfl, hd⟩⟩
   · (conv => whnf)
     have hbq := hS.blk 1 rfl
     refine hS.stY hK 1 rfl (lbO rfl) rfl rfl (fun w' hxs hK hS => KeepC.mk hK ?_)
     conv=>whnf
     exact CutE.mk ⟨[(11, _), (10, _), (9, _), (0, _)], ⟨rfl, rfl, rfl, rfl, trivial⟩, _, _, rfl, hS, .inl ⟨rfl, d, hd, hI.keep hxs hbq⟩⟩
   · (conv => whnf)
     have hbq := hS.blk 1 rfl
     refine hS.stY hK 1 rfl (lbO rfl) rfl rfl (fun w' hxs hK hS => KeepC.mk hK ?_)
     conv=>whnf
     exact CutE.mk ⟨[(11, _), (10, _), (9, _), (0, _)], ⟨rfl, rfl, rfl, rfl, trivial⟩, _, _, rfl, hS, .inl ⟨rfl, d, hd, hI.keep hxs hbq⟩⟩
 clear hS hne hne'
 rintro _ w7 ⟨cs, k, rfl, hS, hk⟩
 rcases hk with ⟨rfl, d, hd, hI⟩ | ⟨rfl, hd⟩
 · have hrun : Runs E W0.heap.size m X W w7 d cs := hI.runs (findC_mem hd).1 hE (fun w' hx => hP w' (hS.ext.trans hx)) (fun w2 w3 X' W' hx hw k => hA w2 w3 X' W' (hS.ext.trans hx) hw k)
   rw [← cmdOf_look hna] at hd
   clear hI
   have hcase : ∃ f caps, cs = [.string (bs d.form), .func (.func f) #[] caps] := by
     rcases hrun with ⟨f, e, _⟩ | ⟨f, b, e, _⟩
     · exact ⟨f, _, e⟩
     · exact ⟨f, _, e⟩
   obtain ⟨f, caps, rfl⟩ := hcase
   have hsl : Slc w7 1 encT (fun t => t.length ≤ 100000) (some ⟨bw, 0, none⟩) n (t0 :: ws) := Slc.of_blk codT (hS.blk 0 rfl) hnl (by omega) (fun t ht => hlen t ht) (by rw [flat_encT, Nat.mul_one, List.drop_zero, List.take_of_length_le (by rw [List.length_map]; exact Nat.le_refl _)])
   have hne := hS.ne 1 0 rfl rfl (by decide)
   conv=>whnf
   (refine drawS tabOk mixed [] No [0, 1, 2, 3, 4, 5, 6, 7, 8, 9] (by kernel_rfl) ?_; rintro w1 rfl; replace hS := hS.drew)
   conv=>whnf
   refine hS.ldF 1 rfl rfl id ?_
   conv=>whnf
   refine slcTail (j := 1) (hsl.no (Ext.drawn No w7 (w7.drawn + 1))) (Nat.le_refl _) Tryz.underlying22 (by kernel_rfl) (by kernel_rfl) rfl hn1 (fun a1 c1 hsl1 hc1 => ?_)
   conv=>whnf
   refine (sread_ok d.form ws hsl1 (by cases d <;> decide) (fun t ht => hlen t (List.mem_cons_of_mem _ ht)) (B.numv.no (hx0.trans hS.ext)) (B.pow.no (hx0.trans hS.ext))).mono ?_
   rintro v w8 ⟨⟨a2, c2, xs, k2, rfl, hnum, hown, hfr⟩, hx8⟩
   refine KeepC.mk hx8 ?_
   have hfr2 : Fresh w w8 (.slice a2 xs.length c2) := fun g hg => ⟨Nat.le_trans hS.ext.size (hfr g hg).1, (hfr g hg).2⟩
   replace hS := hS.no hx8
   cases k2 with
   | false =>
     rw [if_neg (by decide)] at hnum
     rw [play_bad hni hno (by rw [hw]; exact hd) (by rw [hw]; exact hnum)]
     conv=>whnf
     conv=>whnf
     (refine drawS tabOk mixed [] No [0, 1, 2] (by kernel_rfl) ?_; rintro w1 rfl; replace hS := hS.drew)
     conv=>whnf
     refine Ev.ldFc ((B.errs.ext (hx0.trans hS.ext) fun _ h => h.elim).at_ 1 rfl) id ?_
     repeat' ((conv => whnf); first | refine RetC.mk ?_ | refine nzO ?_ | refine rgO ?_ | refine ixO ?_ | (first|apply brD|apply brND|apply brN|apply brI) <;> (intro))
     exact ⟨rfl, X, rfl, Turns.of_no h.has hS.ext⟩
   | true =>
     rw [if_pos rfl] at hnum
     obtain ⟨hxl, hxg⟩ := numsS_nonneg hnum
     rw [play_cmd hni hno (by rw [hw]; exact hd) (by rw [hw]; exact hnum)]
     have hsit : Sits E W0.heap.size m w8 X W bp a2 d.form.length xs := by
       refine ⟨h.no hS.ext, hS.ext.blk hply id, hplo, ?_, ?_⟩
       · rw [← hxl]
         refine ownL_slc codN hown (fun x hx => ?_)
         obtain ⟨i, hi⟩ := List.getElem?_of_mem hx
         exact ⟨(hxg i x hi).1, (hxg i x hi).2.1⟩
       · intro _ b0 o0 e hin
         obtain ⟨g, hg, hbg⟩ := hin
         have h1 := h.has.lt g hg b0 hbg
         have h2 := (hfr2 b0 (by rw [e]; rfl)).1
         omega
     have htk : d = .tick → m + 34 * (at0 xs 1).toNat ≤ 40000000 := fun e => by
       rw [← ticks_of (by rw [hw]; exact hd) (by rw [hw]; exact hnum) e]
       exact Nat.le_trans (by omega) hm
     rw [hxl]
     have hx78 := (Ext.drawn No w7 (w7.drawn + 1)).trans hx8
     rcases hrun with ⟨f2, e2, hc⟩ | ⟨f2, b2, e2, hc⟩
     · obtain ⟨rfl, rfl⟩ : f = f2 ∧ caps = #[] := by simpa [fnV] using e2
       conv=>whnf
       refine hS.ld 1 rfl rfl ?_
       conv=>whnf
       refine (hc hx78 hsit htk).mono ?_
       rintro v w9 ⟨rfl, X', hw9, hT9⟩
       repeat' ((conv => whnf); first | refine RetC.mk ?_ | refine nzO ?_ | refine rgO ?_ | refine ixO ?_ | (first|apply brD|apply brND|apply brN|apply brI) <;> (intro))
       exact ⟨rfl, X', hw9, (Turns.of_no h.has hS.ext).trans hT9⟩
     · obtain ⟨rfl, rfl⟩ : f = f2 ∧ caps = #[.pointer (some ⟨b2, 0, none⟩)] := by simpa [fnV] using e2
       conv=>whnf
       refine hS.ld 1 rfl rfl ?_
       conv=>whnf
       refine (hc hx78 hsit htk).mono ?_
       rintro v w9 ⟨rfl, X', hw9, hT9⟩
       repeat' ((conv => whnf); first | refine RetC.mk ?_ | refine nzO ?_ | refine rgO ?_ | refine ixO ?_ | (first|apply brD|apply brND|apply brN|apply brI) <;> (intro))
       exact ⟨rfl, X', hw9, (Turns.of_no h.has hS.ext).trans hT9⟩
 · rw [← cmdOf_look hna] at hd
   rw [play_none hni hno (by rw [hw]; exact hd)]
   conv=>whnf
   (refine drawS tabOk mixed [] No [0, 1, 2] (by kernel_rfl) ?_; rintro w1 rfl; replace hS := hS.drew)
   conv=>whnf
   refine Ev.ldFc ((B.errs.ext (hx0.trans hS.ext) fun _ h => h.elim).at_ 1 rfl) id ?_
   repeat' ((conv => whnf); first | refine RetC.mk ?_ | refine nzO ?_ | refine rgO ?_ | refine ixO ?_ | (first|apply brD|apply brND|apply brN|apply brI) <;> (intro))
   exact ⟨rfl, X, rfl, Turns.of_no h.has hS.ext⟩
end
end Go.Proofs.YtogjajjdaoihdaaGreatDoor

namespace Go.Proofs.YtogjajjdaoihdaaGreatDoor
set_option maxRecDepth 20000
open Go Ev
theorem cell_spot {w : World} {a : Addr} {v : Value} (h : w.cell? a = some v) : a = ⟨a.block, a.off, none⟩ := by
 obtain ⟨b, o, s⟩ := a
 cases s with
 | none => rfl
 | some x =>
   unfold World.cell? at h
   split at h
   · simp at h
   · cases h
theorem m_err (v : Value) (w : World) : (Go.method (Tryz.prog.types.size + Made.depth) 438 v "Error").run Tryz.prog w = .ok (404, v) w := by kernel_rfl
section
variable {w w' : World} {E : Nat → Addr} {W0 : World}
theorem errText_ok {b o : Nat} {t : ByteArray} (h : w.cell? ⟨b, o, none⟩ = some (.string t)) : CallC Tryz.prog 404 #[.pointer (some ⟨b, o, none⟩)] w fun v w' => v = .string t ∧ w = w' := by
 refine fn_intro tabOk Tryz.func404 (by kernel_rfl) rfl Tryz.ntmps404 (lbO rfl) ?_
 conv=>whnf
 refine ldc (o := o + 0) h ?_
 repeat' ((conv => whnf); first | refine RetC.mk ?_ | refine nzO ?_ | refine rgO ?_ | refine ixO ?_ | (first|apply brD|apply brND|apply brN|apply brI) <;> (intro))
 exact ⟨rfl, rfl⟩
theorem sbare_ok (e : Addr) (w : World) (hh : Handle w) : CallC Tryz.prog 35 #[.iface 438 (.pointer (some e))] w fun v w' => v = .iface 438 (.pointer (some e)) ∧ Ext No w w' := by
 refine fn_intro tabOk Tryz.func35 (by kernel_rfl) rfl Tryz.ntmps35 (lbO rfl) ?_
 have hS := St.start w No
 conv=>whnf
 refine hS.new (fun b w' hb hS => ?_)
 conv=>whnf
 refine (errorsAs_miss e ⟨b, 0, none⟩ _ (hh.ext hS.ext)).mono ?_
 rintro v w2 ⟨rfl, hx⟩
 replace hS := hS.no hx
 repeat' ((conv => whnf); first | refine RetC.mk ?_ | refine nzO ?_ | refine rgO ?_ | refine ixO ?_ | (first|apply brD|apply brND|apply brN|apply brI) <;> (intro))
 exact ⟨rfl, hS.ext⟩
theorem Base.errs_at (B : Base E W0) {w : World} (hx : Ext No W0 w) (k : Nat) (h0 : 1 ≤ k) (h1 : k < 12) : ∃ b o, E k = ⟨b, o, none⟩ ∧ w.cell? ⟨b, o, none⟩ = some (.string (bs (errT k))) := by
 have h := B.text k h0 h1
 have e := cell_spot h
 refine ⟨(E k).block, (E k).off, e, ?_⟩
 have e2 : (E k).spot = none := by
   have := congrArg Addr.spot e
   exact this
 rw [e2] at h
 exact hx.cell h id
set_option maxHeartbeats 4000000 in
theorem srun_ok (B : Base E W0) (hx0 : Ext No W0 w) (s : List UInt8) (hl : s.length ≤ 100000) {a : Option Addr} {n c : Nat} {ls : List (List UInt8)} (hx : Slc w 1 encT (fun t => t.length ≤ 100000) a n ls) (hcost : costS ls ≤ 40000000) :
   CallC Tryz.prog 9 #[.string (bs s), .slice a n c] w fun v w' => (∃ a' c' e, v = .tuple #[.slice a' (scriptS s ls).2.length c', e] ∧ FaultV E w w' e (scriptS s ls).1.1 (scriptS s ls).1.2 ∧ (ownL 9 1 encT (.slice a' (scriptS s ls).2.length c') (scriptS s ls).2).holds w' ∧ Fresh w w' (.slice a' (scriptS s ls).2.length c')) ∧ Ext No w w' := by
 have hlen := hx.len
 have nilT : ∀ w : World, (ownL 9 1 encT (.slice none 0 0) ([] : List (List UInt8))).holds w := fun w => own_nil _ _ _
 have hE0 : ∀ {w'}, Ext No w w' → Errs w' E W0.heap.size allErrs := fun hx => B.errs.ext (hx0.trans hx) fun _ h => h.elim
 unfold scriptS
 rw [hlen]
 refine fn_intro tabOk Tryz.func9 (by kernel_rfl) rfl Tryz.ntmps9 (lbO rfl) ?_
 have hS := St.start w No
 conv=>whnf
 refine brD (fun h1 => ?_) (fun h1 => ?_)
 · rw [if_pos (show 100 < n by omega)]
   conv=>whnf
   (refine drawS tabOk mixed [] No [0, 1, 2] (by kernel_rfl) ?_; rintro w1 rfl; replace hS := hS.drew)
   conv=>whnf
   refine Ev.ldFc ((hE0 hS.ext).at_ 2 rfl) id ?_
   repeat' ((conv => whnf); first | refine RetC.mk ?_ | refine nzO ?_ | refine rgO ?_ | refine ixO ?_ | (first|apply brD|apply brND|apply brN|apply brI) <;> (intro))
   exact ⟨⟨none, 0, _, rfl, .inl ⟨rfl, rfl⟩, nilT _, fun g hg => by cases hg⟩, hS.ext⟩
 rw [if_neg (show ¬ 100 < n by omega)]
 conv=>whnf
 refine (preads_ok s w hl (B.maxl.no hx0) (B.numv.no hx0) (B.pow.no hx0) (B.prot.no hx0) ((hE0 (Ext.refl _ _)).sub rfl)).mono ?_
 rintro v w1 ⟨⟨a1, c1, e1, rfl, hf1, ho1, hfr1⟩, hx1⟩
 replace hS := hS.no hx1
 have hfine := @rulesOfS_fine s
 generalize rulesOfS s = R at hf1 ho1 hfr1 hfine ⊢
 obtain ⟨rs, code, at_⟩ := R
 dsimp only at hf1 ho1 hfr1 hfine ⊢
 cases code with
 | succ j =>
   rw [if_pos (Nat.succ_ne_zero j)]
   obtain ⟨t, u, rfl⟩ := hf1.ne
   repeat' ((conv => whnf); first | refine RetC.mk ?_ | refine nzO ?_ | refine rgO ?_ | refine ixO ?_ | (first|apply brD|apply brND|apply brN|apply brI) <;> (intro))
   exact ⟨⟨none, 0, _, rfl, hf1, nilT _, fun g hg => by cases hg⟩, hS.ext⟩
 | zero =>
   rw [if_neg (fun h => h rfl)]
   obtain rfl : e1 = .nilIface := by
     rcases hf1 with ⟨_, h⟩ | ⟨_, h, _⟩
     · exact h
     · omega
   obtain ⟨hg, rfl⟩ := hfine rfl
   have hgr := fault_good.1 hg
   clear hf1 hfine
   conv=>whnf
   refine (wnew_ok (G := fun _ => True) (ownL_slc codRule ho1 (fun _ _ => trivial)) (by have := hgr.1; omega) ((hE0 hS.ext).sub rfl) (hx0.trans hS.ext).size hg).mono ?_
   rintro v w2 ⟨X, rfl, hx2, hst, hnew⟩
   obtain ⟨hok0, hok1, hok⟩ := WOk.born hgr
   have hEp := EpW.born rs
   have hS : St w No w2 (worldH X (.born rs)) := hS.madeAll hx2 hst.has hnew
   generalize WorldS.born rs = Wb at hst hnew hok hEp hS ⊢
   clear hst hnew hx2 hok0 hok1 ho1 hfr1
   conv=>whnf
   refine hS.new (fun bp w3 hbp hS => ?_)
   replace hS := hS.perm List.perm_append_comm
   conv=>whnf
   replace hS := (hS.rowFirst 9 1 encT).as (H' := [ownL 9 1 encT (.slice none 0 0) [], blk bp 90 [.pointer (some ⟨X.w, 0, none⟩)]] ++ worldH X Wb) rfl
   refine loopR tabOk (fun σ w' r => ∃ (k : Nat) (a' : Option Addr) (c' : Nat) (X' : WorldA), σ = [(40, .int .i64 k), (39, .int .i64 n), (38, .slice a n c), (10, .slice a' k c'), (9, .pointer (some ⟨bp, 0, none⟩))] ∧ r = n - k ∧ k ≤ n ∧ X'.w = X.w ∧ St w No w' ([ownL 9 1 encT (.slice a' k c') (runS (ls.take k) Wb).1, blk bp 90 [.pointer (some ⟨X.w, 0, none⟩)]] ++ worldH X' (runS (ls.take k) Wb).2))
     (σ' := [(40, .int .i64 ((0 : Nat) : Int)), (39, .int .i64 n), (38, .slice a n c), (10, .slice none 0 0), (9, .pointer (some ⟨bp, 0, none⟩))]) (n := n) ⟨rfl, rfl, rfl, rfl, rfl, trivial⟩ ⟨0, none, 0, X, rfl, rfl, Nat.zero_le _, rfl, hS⟩ ?_
   clear hS
   rintro _ w4 r ⟨k, a', c', X', rfl, rfl, hk, hw, hS⟩
   conv=>whnf
   refine brD (fun h3 => ?_) (fun h3 => ?_)
   · obtain ⟨b0, o0, t, hat, htl, rfl, hb0, hc⟩ := hx.at (k := k) (by omega)
     have hst := runS_take hat Wb
     have hcs := costS_take hat
     have hcl := costS_le ls (k + 1)
     obtain ⟨hok1, hEp1⟩ := runS_ok (ls.take k) hok hEp (by omega)
     rw [Nat.zero_add] at hok1
     have hrl : (runS (ls.take k) Wb).1.length = k := by rw [runS_len, List.length_take]; omega
     have hm : costS (ls.take k) + (34 * ticksOf t + 1) ≤ 40000000 := by omega
     clear hcl hcs
     generalize runS (ls.take k) Wb = R at *
     have hsd : Stands E W0.heap.size (costS (ls.take k)) w4 X' R.2 := ⟨hS.has.right, hok1, (hE0 hS.ext).sub rfl, fun b hb => Nat.le_trans hx0.size (by
       obtain ⟨e, he, hbe⟩ := hb
       exact ((hS.may e (List.mem_append_right _ he) b hbe).1.elim (fun h => h.elim) id))⟩
     have hplo : ¬ inF (worldH X' R.2) bp := fun hin => by
       obtain ⟨g, hg, hbg⟩ := hin
       exact (List.pairwise_append.1 hS.apart).2.2 _ (List.mem_cons_of_mem _ List.mem_cons_self) g hg bp (List.mem_singleton.2 rfl) hbg
     obtain ⟨hok2, hEp2, hcode⟩ := playS_ok hok1 hEp1 hm
     conv=>whnf
     refine ixO ?_
     conv=>whnf
     refine hS.ldr (hc 0 _ rfl) id ?_
     conv=>whnf
     refine (splay_ok B hsd (hx0.trans hS.ext) (by rw [hw]; exact hS.blk 1 rfl) hplo hEp1 t htl hm).mono ?_
     rintro v w5 ⟨rfl, X2, hX2, hT⟩
     replace hX2 := hX2.trans hw
     replace hS := St.callAt (A := [_, _]) (B := []) (H := worldH X' R.2) (by simpa using hS) hT
     rw [List.append_nil] at hS
     have htell : tellS t R.2 = (if (playS t R.2).1.2 = 0 then (playS t R.2).1.1 else errT (playS t R.2).1.2, (playS t R.2).2) := rfl
     rw [htell] at hst
     generalize playS t R.2 = P at hst hS hcode ⊢
     obtain ⟨⟨tx, j⟩, Z⟩ := P
     dsimp only at hst hS hcode ⊢
     cases j with
     | zero =>
       rw [if_pos rfl] at hst
       replace hS := hS.perm List.perm_append_comm
       conv=>whnf
       refine hS.lit Tryz.underlying22 (sz := 1) (by kernel_rfl) (z := .string (bs [])) (by kernel_rfl) rfl rfl (cs := encT tx) (by rfl) (fun b9 w4 hb9 hS => ?_)
       replace hS := (hS.perm List.perm_append_comm).as (H' := [blk b9 9 (encT tx)] ++ (worldH X2 Z ++ [ownL 9 1 encT (.slice a' k c') R.1, blk bp 90 [.pointer (some ⟨X.w, 0, none⟩)]])) rfl
       replace hS := (hS.perm (List.Perm.append_left _ List.perm_append_comm)).as (H' := [blk b9 9 (encT tx)] ++ ([ownL 9 1 encT (.slice a' k c') R.1, blk bp 90 [.pointer (some ⟨X.w, 0, none⟩)]] ++ worldH X2 Z)) rfl
       conv=>whnf
       refine hS.appS codT 1 (ys := [tx]) (G := fun _ => True) Tryz.underlying22 (bytes := 16) (by kernel_rfl) (z := .string (bs [])) (by kernel_rfl) rfl rfl (Slc.of_blk codT (hS.blk 0 rfl) rfl (by simp) (fun _ _ => trivial) rfl) (by rw [hrl]; unfold maxLen; omega) (by rw [hrl]; omega) (fun a2 c2 w5 hS => ?_)
       rw [hrl] at hS ⊢
       replace hS := (hS.as (H' := [_] ++ ([ownL 9 1 encT (.slice a2 (k + 1) c2) (R.1 ++ [tx]), blk bp 90 [.pointer (some ⟨X.w, 0, none⟩)]] ++ worldH X2 Z)) rfl).weaken (List.sublist_append_right _ _)
       conv=>whnf
       refine rgO ?_
       conv=>whnf
       refine LoopE.mk ⟨_, [(40, .int .i64 ((k + 1 : Nat) : Int)), (39, _), (38, _), (10, .slice a2 (k + 1) c2), (9, _)], ?_, ⟨rfl, rfl, rfl, rfl, rfl, trivial⟩, ⟨k + 1, a2, c2, X2, rfl, rfl, by omega, hX2, by rw [hst]; exact hS⟩⟩
       omega
     | succ j =>
       rw [if_neg (Nat.succ_ne_zero j)] at hst
       conv=>whnf
       refine (sbare_ok _ _ (B.hand.ext (hx0.trans hS.ext))).mono ?_
       rintro v w6 ⟨rfl, hx6⟩
       replace hS := hS.no hx6
       obtain ⟨be, oe, hEe, hte⟩ := B.errs_at (hx0.trans hS.ext) (j + 1) (by omega) hcode
       rw [hEe]
       conv=>whnf
       refine ⟨_, _, m_err _ _, ?_⟩
       refine (errText_ok hte).mono ?_
       rintro v w7 ⟨rfl, rfl⟩
       replace hS := hS.perm List.perm_append_comm
       conv=>whnf
       refine hS.lit Tryz.underlying22 (sz := 1) (by kernel_rfl) (z := .string (bs [])) (by kernel_rfl) rfl rfl (cs := encT (errT (j + 1))) (by rfl) (fun b9 w4 hb9 hS => ?_)
       replace hS := (hS.perm List.perm_append_comm).as (H' := [blk b9 9 (encT (errT (j + 1)))] ++ (worldH X2 Z ++ [ownL 9 1 encT (.slice a' k c') R.1, blk bp 90 [.pointer (some ⟨X.w, 0, none⟩)]])) rfl
       replace hS := (hS.perm (List.Perm.append_left _ List.perm_append_comm)).as (H' := [blk b9 9 (encT (errT (j + 1)))] ++ ([ownL 9 1 encT (.slice a' k c') R.1, blk bp 90 [.pointer (some ⟨X.w, 0, none⟩)]] ++ worldH X2 Z)) rfl
       conv=>whnf
       refine hS.appS codT 1 (ys := [(errT (j + 1))]) (G := fun _ => True) Tryz.underlying22 (bytes := 16) (by kernel_rfl) (z := .string (bs [])) (by kernel_rfl) rfl rfl (Slc.of_blk codT (hS.blk 0 rfl) rfl (by simp) (fun _ _ => trivial) rfl) (by rw [hrl]; unfold maxLen; omega) (by rw [hrl]; omega) (fun a2 c2 w5 hS => ?_)
       rw [hrl] at hS ⊢
       replace hS := (hS.as (H' := [_] ++ ([ownL 9 1 encT (.slice a2 (k + 1) c2) (R.1 ++ [(errT (j + 1))]), blk bp 90 [.pointer (some ⟨X.w, 0, none⟩)]] ++ worldH X2 Z)) rfl).weaken (List.sublist_append_right _ _)
       conv=>whnf
       refine rgO ?_
       conv=>whnf
       refine LoopE.mk ⟨_, [(40, .int .i64 ((k + 1 : Nat) : Int)), (39, _), (38, _), (10, .slice a2 (k + 1) c2), (9, _)], ?_, ⟨rfl, rfl, rfl, rfl, rfl, trivial⟩, ⟨k + 1, a2, c2, X2, rfl, rfl, by omega, hX2, by rw [hst]; exact hS⟩⟩
       omega
   · obtain rfl : k = n := by omega
     rw [List.take_of_length_le (by omega)] at hS
     have hrl : (runS ls Wb).1.length = k := by rw [runS_len]; exact hlen
     repeat' ((conv => whnf); first | refine RetC.mk ?_ | refine nzO ?_ | refine rgO ?_ | refine ixO ?_ | (first|apply brD|apply brND|apply brN|apply brI) <;> (intro))
     rw [hrl]
     exact ⟨⟨a', c', _, rfl, .inl ⟨rfl, rfl⟩, hS.get 0 rfl, hS.freshAt 0 rfl⟩, hS.ext⟩
end
end Go.Proofs.YtogjajjdaoihdaaGreatDoor

namespace Go.Proofs.YtogjajjdaoihdaaGreatDoor
set_option maxRecDepth 20000
open Go Ev
section
variable {w : World} {G G' : List UInt8 → Prop} {a b : Option Addr} {n m c d : Nat} {xs ys : List (List UInt8)}
theorem takeT_eq {k : Nat} {x y : List UInt8} (hx : xs[k]? = some x) (hy : ys[k]? = some y) (h : xs.take k = ys.take k) (e : x = y) : xs.take (k + 1) = ys.take (k + 1) := by
 rw [List.take_add_one, List.take_add_one, hx, hy, h, e]
theorem sameTexts_ok (hx : Slc w 1 encT G a n xs) (hy : Slc w 1 encT G' b m ys) :
   CallC Tryz.prog 19 #[.slice a n c, .slice b m d] w fun v w' => v = .bool (decide (xs = ys)) ∧ Ext No w w' := by
 have hm := hx.max
 have hl := hx.len
 have hl2 := hy.len
 refine fn_intro tabOk Tryz.func19 (by kernel_rfl) rfl Tryz.ntmps19 (lbO rfl) ?_
 have hS := St.start w No
 conv=>whnf
 refine brND (fun h1 => ?_) (fun h1 => ?_)
 · repeat' ((conv => whnf); first | refine RetC.mk ?_ | refine nzO ?_ | refine rgO ?_ | refine ixO ?_ | (first|apply brD|apply brND|apply brN|apply brI) <;> (intro))
   refine ⟨?_, hS.ext⟩
   have : xs ≠ ys := fun e => h1 (by rw [← hl, ← hl2, e])
   simp [this]
 have hnm : n = m := by omega
 subst hnm
 conv=>whnf
 refine loopR tabOk (fun σ w' q => ∃ k : Nat, σ = [(5, .int .i64 k), (1, .slice b n d), (0, .slice a n c)] ∧ q = n - k ∧ k ≤ n ∧ St w No w' [] ∧ xs.take k = ys.take k)
   (σ' := [(5, .int .i64 ((0 : Nat) : Int)), (1, .slice b n d), (0, .slice a n c)]) (n := n) ⟨rfl, rfl, rfl, trivial⟩ ⟨0, rfl, rfl, Nat.zero_le _, hS, rfl⟩ ?_
 clear hS
 rintro _ w1 q ⟨k, rfl, rfl, hk, hS, hi⟩
 conv=>whnf
 refine brD (fun h3 => ?_) (fun h3 => ?_)
 · obtain ⟨b0, o0, x, hxk, _, rfl, _, hc⟩ := hx.at (k := k) (by omega)
   obtain ⟨b1, o1, y, hyk, _, rfl, _, hd⟩ := hy.at (k := k) (by omega)
   conv=>whnf
   (refine drawS tabOk mixed [] No [0, 1, 2, 3, 4, 5, 6, 7, 8] (by kernel_rfl) ?_; rintro w1 rfl; replace hS := hS.drew)
   conv=>whnf
   refine ixO ?_
   conv=>whnf
   refine hS.ldrF (hc.one 0 rfl) id id ?_
   conv=>whnf
   refine ixO ?_
   conv=>whnf
   refine hS.ldrF (hd.one 0 rfl) id id ?_
   conv=>whnf
   refine neS2 ?_
   conv=>whnf
   refine brND (fun h4 => ?_) (fun h4 => ?_)
   · repeat' ((conv => whnf); first | refine RetC.mk ?_ | refine nzO ?_ | refine rgO ?_ | refine ixO ?_ | (first|apply brD|apply brND|apply brN|apply brI) <;> (intro))
     refine ⟨?_, hS.ext⟩
     have : xs ≠ ys := fun e => h4 (by subst e; exact Option.some.inj (hxk.symm.trans hyk))
     simp [this]
   · (conv => whnf)
     refine rgO ?_
     conv=>whnf
     refine LoopE.mk ⟨_, [(5, .int .i64 ((k + 1 : Nat) : Int)), (1, _), (0, _)], ?_, ⟨rfl, rfl, rfl, trivial⟩, ⟨k + 1, rfl, rfl, by omega, hS, takeT_eq hxk hyk hi h4⟩⟩
     omega
 · repeat' ((conv => whnf); first | refine RetC.mk ?_ | refine nzO ?_ | refine rgO ?_ | refine ixO ?_ | (first|apply brD|apply brND|apply brN|apply brI) <;> (intro))
   have : k = n := by omega
   subst this
   rw [List.take_of_length_le (by omega), List.take_of_length_le (by omega)] at hi
   exact ⟨by simp [hi], hS.ext⟩
end
def rule19 : RuleS := ⟨true, true, 0, 1, 9⟩
def pkt56 : PktS := ⟨1, 5, 1, 6, 9, 0⟩
def hRules : List UInt8 := [97, 108, 108, 111, 119, 32, 111, 117, 116, 32, 97, 110, 121, 32, 49, 45, 57, 10]
def hLine1 : List UInt8 := [116, 105, 99, 107, 32, 49, 32, 49, 48]
def hLine2 : List UInt8 := [97, 108, 108]
def hLine3 : List UInt8 := [115, 119, 105, 116, 99, 104]
def hPkt : List UInt8 := [117, 100, 112, 32, 53, 58, 49, 32, 54, 58, 57]
def hLine4 : List UInt8 := [105, 110, 115, 105, 100, 101, 32] ++ hPkt
def hLine5 : List UInt8 := [102, 108, 111, 119, 115, 32, 49]
def hOut4 : List UInt8 := [117, 100, 112, 32, 49, 58, 50, 48, 50, 52, 32, 54, 58, 57]
theorem itoa1 : Lib.itoa 1 = [49] := Lib.decDigits_one (i := 1) (by decide)
theorem itoa5 : Lib.itoa 5 = [53] := Lib.decDigits_one (i := 5) (by decide)
theorem itoa6 : Lib.itoa 6 = [54] := Lib.decDigits_one (i := 6) (by decide)
theorem itoa9 : Lib.itoa 9 = [57] := Lib.decDigits_one (i := 9) (by decide)
theorem itoa2024 : Lib.itoa 2024 = [50, 48, 50, 52] := by
 have h := canon_dec 3 [50, 48, 50, 52] rfl ⟨by decide, by decide, fun _ => by decide⟩
 exact h
theorem hRules_of : rulesOfS hRules = ([rule19], (0, -1)) := by
 have h := rulesOfS_lines (l := [rule19]) (by decide)
 have e : linesB [rule19] = hRules := by
   simp only [linesB, rule19, List.flatMap_cons, List.flatMap_nil, RuleS.line, RuleS.words, itoa1, itoa9]
   decide
 rwa [e] at h
theorem hPkt_text : pkt56.text = hPkt := by
 simp only [PktS.text, endT, pkt56, itoa1, itoa5, itoa6, itoa9]
 decide
def helloB : Bool :=
 let R := (WorldS.born [rule19]).ticks 1 10
 let V := R.2.land R.2.fly.length
 let I := V.inside pkt56
 decide (R.1 = 0) && decide (R.2.fly.length = 1) && decide (V.to = 1) && decide (V.epoch = 1) && decide (I.1 = 0) && decide (I.2.1 = ⟨1, 1, 2024, 6, 9, 0⟩) && decide (I.2.2.upErr 1 = 0) && (match (I.2.2.side 1).node with | some N => decide (flowsN N.tab.cells = 1) | none => false)
theorem helloB_true : helloB = true := by decide +kernel
theorem tell_cmd {l : List UInt8} {W : WorldS} {d : Cmd} {xs : List Int} (h : (Lib.cut l [32]).1 ≠ wInside) (h2 : (Lib.cut l [32]).1 ≠ wOutside) (h3 : cmdOf ((cutR 32 l).headD []) = some d) (h4 : numsS d.form ((cutR 32 l).drop 1) = some xs) : tellS l W = (if (d.does xs W).1.2 = 0 then (d.does xs W).1.1 else errT (d.does xs W).1.2, (d.does xs W).2) := by
 unfold tellS
 rw [play_cmd h h2 h3 h4]
theorem hello_plain : (runS [hLine1, hLine2, hLine3, hLine4, hLine5] (.born [rule19])).1 = [tOk, [49], [49, 32, 49], hOut4, [49]] := by
 have hb := helloB_true
 unfold helloB at hb
 simp only [Bool.and_eq_true, decide_eq_true_eq] at hb
 obtain ⟨⟨⟨⟨⟨⟨⟨h1, h2⟩, h3⟩, h4⟩, h5⟩, h6⟩, h7⟩, h8⟩ := hb
 have t1 : tellS hLine1 (.born [rule19]) = (tOk, ((WorldS.born [rule19]).ticks 1 10).2) := by
   rw [tell_cmd (d := .tick) (xs := [1, 10]) (by decide) (by decide) (by decide) (by decide)]
   show (if ((WorldS.born [rule19]).ticks 1 10).1 = 0 then tOk else _, ((WorldS.born [rule19]).ticks 1 10).2) = _
   rw [if_pos h1]
 generalize (WorldS.born [rule19]).ticks 1 10 = R at h1 h2 h3 h4 h5 h6 h7 h8 t1
 have t2 : tellS hLine2 R.2 = ([49], R.2.land R.2.fly.length) := by
   rw [tell_cmd (d := .all) (xs := []) (by decide) (by decide) (by decide) (by decide)]
   show (Lib.itoa (R.2.fly.length : Nat), R.2.land R.2.fly.length) = _
   rw [h2, show ((1 : Nat) : Int) = 1 from rfl, itoa1]
 generalize R.2.land R.2.fly.length = V at h3 h4 h5 h6 h7 h8 t2
 have t3 : tellS hLine3 V = ([49, 32, 49], V) := by
   rw [tell_cmd (d := .switch) (xs := []) (by decide) (by decide) (by decide) (by decide)]
   show (if V.to < 0 then tNothing else Lib.itoa V.to ++ [32] ++ Lib.itoa V.epoch, V) = _
   rw [h3, h4, if_neg (by decide), itoa1]
   rfl
 have t4 : tellS hLine4 V = (hOut4, (V.inside pkt56).2.2) := by
   have hr : (Lib.cut hLine4 [32]).2.1 = pkt56.text := by rw [hPkt_text]; decide
   have hp : playS hLine4 V = ((hOut4, 0), (V.inside pkt56).2.2) := by
     rw [play_in (by decide), hr, carry_good (readPk_text (by decide)) h5, h6]
     have ho : (⟨1, 1, 2024, 6, 9, 0⟩ : PktS).text = hOut4 := by
       simp only [PktS.text, endT, itoa1, itoa2024, itoa6, itoa9]
       decide
     rw [ho]
     rfl
   unfold tellS
   rw [hp]
   rfl
 generalize (V.inside pkt56).2.2 = Z at h7 h8 t4
 have t5 : tellS hLine5 Z = ([49], Z) := by
   rw [tell_cmd (d := .flows) (xs := [1]) (by decide) (by decide) (by decide) (by decide)]
   have ha : askS Z 1 (fun N => (flowsN N.tab.cells : Nat)) = ([49], 0) := by
     unfold askS
     split at h8
     · rename_i N hN
       rw [hN]
       dsimp only
       rw [if_pos h7, of_decide_eq_true h8]
       rw [show ((1 : Nat) : Int) = 1 from rfl, itoa1]
     · cases h8
   show (if (askS Z 1 (fun N => (flowsN N.tab.cells : Nat))).2 = 0 then (askS Z 1 (fun N => (flowsN N.tab.cells : Nat))).1 else _, Z) = _
   rw [ha]
   rfl
 simp only [runS, t1, t2, t3, t4, t5]
section
variable {w : World} {E : Nat → Addr} {W0 : World}
theorem hello_cost : costS [hLine1, hLine2, hLine3, hLine4, hLine5] ≤ 40000000 := by decide +kernel
theorem hello_ok (B : Base E W0) (hx0 : Ext No W0 w) : CallC Tryz.prog 8 #[] w fun v w' => v = .bool true ∧ Ext No w w' := by
 refine fn_intro tabOk Tryz.func8 (by kernel_rfl) rfl Tryz.ntmps8 (lbO rfl) ?_
 have hS := St.start w No
 conv=>whnf
 refine hS.lit (cs := [hLine1, hLine2, hLine3, hLine4, hLine5].map fun l => .string (bs l)) Tryz.underlying22 (sz := 1) (by kernel_rfl) (z := .string (bs [])) (by kernel_rfl) rfl rfl (by rfl) (fun b w1 hb hS => ?_)
 have hx : Slc w1 1 encT (fun t => t.length ≤ 100000) (some ⟨b, 0, none⟩) 5 [hLine1, hLine2, hLine3, hLine4, hLine5] := Slc.of_blk codT (hS.blk 0 rfl) rfl (by decide) (by decide) rfl
 conv=>whnf
 refine (srun_ok B (hx0.trans hS.ext) hRules (by decide) hx hello_cost).mono ?_
 have hsc : scriptS hRules [hLine1, hLine2, hLine3, hLine4, hLine5] = ((0, -1), [tOk, [49], [49, 32, 49], hOut4, [49]]) := by
   unfold scriptS
   rw [if_neg (by decide), hRules_of, if_neg (by decide), hello_plain]
 rw [hsc]
 rintro v w2 ⟨⟨a2, c2, e, rfl, hf, ho, _⟩, hx2⟩
 replace hS := hS.no hx2
 obtain rfl : e = .nilIface := by
   rcases hf with ⟨_, h⟩ | ⟨_, h, _⟩
   · exact h
   · exact absurd h (by decide)
 have hz := ownL_slc (G := fun _ => True) codT ho (fun _ _ => trivial)
 conv=>whnf
 refine hS.litX (cs := [tOk, [49], [49, 32, 49], hOut4, [49]].map fun l => .string (bs l)) Tryz.underlying22 (sz := 1) (by kernel_rfl) (z := .string (bs [])) (by kernel_rfl) rfl rfl (by rfl) (fun b3 w3 hb3 hx3 hS => ?_)
 have hy : Slc w3 1 encT (fun _ => True) (some ⟨b3, 0, none⟩) 5 [tOk, [49], [49, 32, 49], hOut4, [49]] := Slc.of_blk codT (hS.blk 1 rfl) rfl (by decide) (fun _ _ => trivial) rfl
 conv=>whnf
 refine (sameTexts_ok (hz.no hx3) hy).mono ?_
 rintro v w4 ⟨rfl, hx4⟩
 replace hS := hS.no hx4
 repeat' ((conv => whnf); first | refine RetC.mk ?_ | refine nzO ?_ | refine rgO ?_ | refine ixO ?_ | (first|apply brD|apply brND|apply brN|apply brI) <;> (intro))
 exact ⟨rfl, hS.ext⟩
end
end Go.Proofs.YtogjajjdaoihdaaGreatDoor

namespace Go.Proofs.YtogjajjdaoihdaaGreatDoor
set_option maxRecDepth 20000
open Go Ev
theorem cmd_words (d : Cmd) : d.word = [116, 105, 99, 107] ∨ d.word = [99, 117, 116] ∨ d.word = [103, 111] ∨ d.word = [108, 111, 115, 101] ∨ d.word = [116, 119, 105, 99, 101] ∨ d.word = [100, 111, 119, 110] ∨ d.word = [117, 112] ∨ d.word = [97, 99, 116, 105, 118, 101] ∨ d.word = [102, 108, 111, 119, 115] ∨ d.word = [109, 105, 114, 114, 111, 114] ∨ d.word = [101, 112, 111, 99, 104] ∨ d.word = [108, 105, 102, 101] ∨ d.word = [97, 108, 108] ∨ d.word = [102, 108, 121] ∨ d.word = [115, 119, 105, 116, 99, 104] ∨ d.word = [101, 118, 101, 110, 116, 115] := by
 cases d <;> simp [Cmd.word]
section
variable {w : World}
theorem formOf_ok (s : List UInt8) (w : World) : CallC Tryz.prog 13 #[.string (bs s)] w fun v w' => v = .tuple #[.string (bs ((formW s).getD [])), .bool (formW s).isSome] ∧ w = w' := by
 refine fn_intro tabOk Tryz.func13 (by kernel_rfl) rfl Tryz.ntmps13 (lbO rfl) ?_
 conv=>whnf
 refine eqS2 (b := [116, 105, 99, 107]) ?_
 by_cases h0 : s = [116, 105, 99, 107]
 · rw [decide_eq_true h0]
   repeat' ((conv => whnf); first | refine RetC.mk ?_ | refine nzO ?_ | refine rgO ?_ | refine ixO ?_ | (first|apply brD|apply brND|apply brN|apply brI) <;> (intro))
   rw [h0, show formW [116, 105, 99, 107] = some [115, 110] by decide]
   exact ⟨rfl, rfl⟩
 rw [decide_eq_false h0]
 conv=>whnf
 refine eqS2 (b := [99, 117, 116]) ?_
 by_cases h1 : s = [99, 117, 116]
 · rw [decide_eq_true h1]
   repeat' ((conv => whnf); first | refine RetC.mk ?_ | refine nzO ?_ | refine rgO ?_ | refine ixO ?_ | (first|apply brD|apply brND|apply brN|apply brI) <;> (intro))
   rw [h1, show formW [99, 117, 116] = some [115, 110] by decide]
   exact ⟨rfl, rfl⟩
 rw [decide_eq_false h1]
 conv=>whnf
 refine eqS2 (b := [103, 111]) ?_
 by_cases h2 : s = [103, 111]
 · rw [decide_eq_true h2]
   repeat' ((conv => whnf); first | refine RetC.mk ?_ | refine nzO ?_ | refine rgO ?_ | refine ixO ?_ | (first|apply brD|apply brND|apply brN|apply brI) <;> (intro))
   rw [h2, show formW [103, 111] = some [110] by decide]
   exact ⟨rfl, rfl⟩
 rw [decide_eq_false h2]
 conv=>whnf
 refine eqS2 (b := [108, 111, 115, 101]) ?_
 by_cases h3 : s = [108, 111, 115, 101]
 · rw [decide_eq_true h3]
   repeat' ((conv => whnf); first | refine RetC.mk ?_ | refine nzO ?_ | refine rgO ?_ | refine ixO ?_ | (first|apply brD|apply brND|apply brN|apply brI) <;> (intro))
   rw [h3, show formW [108, 111, 115, 101] = some [110] by decide]
   exact ⟨rfl, rfl⟩
 rw [decide_eq_false h3]
 conv=>whnf
 refine eqS2 (b := [116, 119, 105, 99, 101]) ?_
 by_cases h4 : s = [116, 119, 105, 99, 101]
 · rw [decide_eq_true h4]
   repeat' ((conv => whnf); first | refine RetC.mk ?_ | refine nzO ?_ | refine rgO ?_ | refine ixO ?_ | (first|apply brD|apply brND|apply brN|apply brI) <;> (intro))
   rw [h4, show formW [116, 119, 105, 99, 101] = some [110] by decide]
   exact ⟨rfl, rfl⟩
 rw [decide_eq_false h4]
 conv=>whnf
 refine eqS2 (b := [100, 111, 119, 110]) ?_
 by_cases h5 : s = [100, 111, 119, 110]
 · rw [decide_eq_true h5]
   repeat' ((conv => whnf); first | refine RetC.mk ?_ | refine nzO ?_ | refine rgO ?_ | refine ixO ?_ | (first|apply brD|apply brND|apply brN|apply brI) <;> (intro))
   rw [h5, show formW [100, 111, 119, 110] = some [115] by decide]
   exact ⟨rfl, rfl⟩
 rw [decide_eq_false h5]
 conv=>whnf
 refine eqS2 (b := [117, 112]) ?_
 by_cases h6 : s = [117, 112]
 · rw [decide_eq_true h6]
   repeat' ((conv => whnf); first | refine RetC.mk ?_ | refine nzO ?_ | refine rgO ?_ | refine ixO ?_ | (first|apply brD|apply brND|apply brN|apply brI) <;> (intro))
   rw [h6, show formW [117, 112] = some [115] by decide]
   exact ⟨rfl, rfl⟩
 rw [decide_eq_false h6]
 conv=>whnf
 refine eqS2 (b := [97, 99, 116, 105, 118, 101]) ?_
 by_cases h7 : s = [97, 99, 116, 105, 118, 101]
 · rw [decide_eq_true h7]
   repeat' ((conv => whnf); first | refine RetC.mk ?_ | refine nzO ?_ | refine rgO ?_ | refine ixO ?_ | (first|apply brD|apply brND|apply brN|apply brI) <;> (intro))
   rw [h7, show formW [97, 99, 116, 105, 118, 101] = some [115] by decide]
   exact ⟨rfl, rfl⟩
 rw [decide_eq_false h7]
 conv=>whnf
 refine eqS2 (b := [102, 108, 111, 119, 115]) ?_
 by_cases h8 : s = [102, 108, 111, 119, 115]
 · rw [decide_eq_true h8]
   repeat' ((conv => whnf); first | refine RetC.mk ?_ | refine nzO ?_ | refine rgO ?_ | refine ixO ?_ | (first|apply brD|apply brND|apply brN|apply brI) <;> (intro))
   rw [h8, show formW [102, 108, 111, 119, 115] = some [115] by decide]
   exact ⟨rfl, rfl⟩
 rw [decide_eq_false h8]
 conv=>whnf
 refine eqS2 (b := [109, 105, 114, 114, 111, 114]) ?_
 by_cases h9 : s = [109, 105, 114, 114, 111, 114]
 · rw [decide_eq_true h9]
   repeat' ((conv => whnf); first | refine RetC.mk ?_ | refine nzO ?_ | refine rgO ?_ | refine ixO ?_ | (first|apply brD|apply brND|apply brN|apply brI) <;> (intro))
   rw [h9, show formW [109, 105, 114, 114, 111, 114] = some [115] by decide]
   exact ⟨rfl, rfl⟩
 rw [decide_eq_false h9]
 conv=>whnf
 refine eqS2 (b := [101, 112, 111, 99, 104]) ?_
 by_cases h10 : s = [101, 112, 111, 99, 104]
 · rw [decide_eq_true h10]
   repeat' ((conv => whnf); first | refine RetC.mk ?_ | refine nzO ?_ | refine rgO ?_ | refine ixO ?_ | (first|apply brD|apply brND|apply brN|apply brI) <;> (intro))
   rw [h10, show formW [101, 112, 111, 99, 104] = some [115] by decide]
   exact ⟨rfl, rfl⟩
 rw [decide_eq_false h10]
 conv=>whnf
 refine eqS2 (b := [108, 105, 102, 101]) ?_
 by_cases h11 : s = [108, 105, 102, 101]
 · rw [decide_eq_true h11]
   repeat' ((conv => whnf); first | refine RetC.mk ?_ | refine nzO ?_ | refine rgO ?_ | refine ixO ?_ | (first|apply brD|apply brND|apply brN|apply brI) <;> (intro))
   rw [h11, show formW [108, 105, 102, 101] = some [115] by decide]
   exact ⟨rfl, rfl⟩
 rw [decide_eq_false h11]
 conv=>whnf
 refine eqS2 (b := [105, 110, 115, 105, 100, 101]) ?_
 by_cases h12 : s = [105, 110, 115, 105, 100, 101]
 · rw [decide_eq_true h12]
   repeat' ((conv => whnf); first | refine RetC.mk ?_ | refine nzO ?_ | refine rgO ?_ | refine ixO ?_ | (first|apply brD|apply brND|apply brN|apply brI) <;> (intro))
   rw [h12, show formW [105, 110, 115, 105, 100, 101] = some [112] by decide]
   exact ⟨rfl, rfl⟩
 rw [decide_eq_false h12]
 conv=>whnf
 refine eqS2 (b := [111, 117, 116, 115, 105, 100, 101]) ?_
 by_cases h13 : s = [111, 117, 116, 115, 105, 100, 101]
 · rw [decide_eq_true h13]
   repeat' ((conv => whnf); first | refine RetC.mk ?_ | refine nzO ?_ | refine rgO ?_ | refine ixO ?_ | (first|apply brD|apply brND|apply brN|apply brI) <;> (intro))
   rw [h13, show formW [111, 117, 116, 115, 105, 100, 101] = some [112] by decide]
   exact ⟨rfl, rfl⟩
 rw [decide_eq_false h13]
 conv=>whnf
 refine eqS2 (b := [97, 108, 108]) ?_
 by_cases h14 : s = [97, 108, 108]
 · rw [decide_eq_true h14]
   repeat' ((conv => whnf); first | refine RetC.mk ?_ | refine nzO ?_ | refine rgO ?_ | refine ixO ?_ | (first|apply brD|apply brND|apply brN|apply brI) <;> (intro))
   rw [h14, show formW [97, 108, 108] = some [] by decide]
   exact ⟨rfl, rfl⟩
 rw [decide_eq_false h14]
 conv=>whnf
 refine eqS2 (b := [102, 108, 121]) ?_
 by_cases h15 : s = [102, 108, 121]
 · rw [decide_eq_true h15]
   repeat' ((conv => whnf); first | refine RetC.mk ?_ | refine nzO ?_ | refine rgO ?_ | refine ixO ?_ | (first|apply brD|apply brND|apply brN|apply brI) <;> (intro))
   rw [h15, show formW [102, 108, 121] = some [] by decide]
   exact ⟨rfl, rfl⟩
 rw [decide_eq_false h15]
 conv=>whnf
 refine eqS2 (b := [115, 119, 105, 116, 99, 104]) ?_
 by_cases h16 : s = [115, 119, 105, 116, 99, 104]
 · rw [decide_eq_true h16]
   repeat' ((conv => whnf); first | refine RetC.mk ?_ | refine nzO ?_ | refine rgO ?_ | refine ixO ?_ | (first|apply brD|apply brND|apply brN|apply brI) <;> (intro))
   rw [h16, show formW [115, 119, 105, 116, 99, 104] = some [] by decide]
   exact ⟨rfl, rfl⟩
 rw [decide_eq_false h16]
 conv=>whnf
 refine eqS2 (b := [101, 118, 101, 110, 116, 115]) ?_
 by_cases h17 : s = [101, 118, 101, 110, 116, 115]
 · rw [decide_eq_true h17]
   repeat' ((conv => whnf); first | refine RetC.mk ?_ | refine nzO ?_ | refine rgO ?_ | refine ixO ?_ | (first|apply brD|apply brND|apply brN|apply brI) <;> (intro))
   rw [h17, show formW [101, 118, 101, 110, 116, 115] = some [] by decide]
   exact ⟨rfl, rfl⟩
 rw [decide_eq_false h17]
 have hf : formW s = none := by
   unfold formW
   rw [if_neg (fun h => h.elim h12 h13)]
   cases hc : cmdOf s with
   | none => rfl
   | some d =>
     have hw := cmdOf_word hc
     rcases cmd_words d with h | h | h | h | h | h | h | h | h | h | h | h | h | h | h | h <;> rw [h] at hw <;> contradiction
 repeat' ((conv => whnf); first | refine RetC.mk ?_ | refine nzO ?_ | refine rgO ?_ | refine ixO ?_ | (first|apply brD|apply brND|apply brN|apply brI) <;> (intro))
 rw [hf]
 exact ⟨rfl, rfl⟩
end
end Go.Proofs.YtogjajjdaoihdaaGreatDoor

namespace Go.Proofs.YtogjajjdaoihdaaGreatDoor
set_option maxRecDepth 20000
open Go Ev
end Go.Proofs.YtogjajjdaoihdaaGreatDoor

namespace Go.Proofs.YtogjajjdaoihdaaGreatDoor
set_option maxRecDepth 20000
open Go Ev
def RuleS.pr (r : RuleS) : List Pr := [.bool r.allow, .bool r.out, .int r.proto, .int r.low, .int r.top]
section
variable {w : World} {G G' : RuleS → Prop} {a b : Option Addr} {n m c d : Nat} {xs ys : List RuleS}
theorem protoB_at {pr : Int} (h : 0 ≤ pr ∧ pr ≤ 2) : [Value.string (bs sAny), .string (bs sUdp), .string (bs sTcp)][0 + pr.toNat * 1]? = some (.string (bs (protoB pr))) := by
 have : pr = 0 ∨ pr = 1 ∨ pr = 2 := by omega
 rcases this with rfl | rfl | rfl <;> rfl
theorem rulesText_ok (hx : Slc w 5 encRule G a n xs) (hg : GoodR xs) :
   CallC Tryz.prog 18 #[.slice a n c] w fun v w' => v = .string (bs (linesB xs)) ∧ Ext No w w' := by
 have hm := hx.max
 have hl := hx.len
 have hg1 := hg.1
 refine fn_intro tabOk Tryz.func18 (by kernel_rfl) rfl Tryz.ntmps18 (lbO rfl) ?_
 have hS := St.start w No
 conv=>whnf
 refine loopR tabOk (fun σ w' q => ∃ k : Nat, σ = [(4, .int .i64 (k : Int)), (3, .string (bs (linesB (xs.take k)))), (0, .slice a n c)] ∧ q = n - k ∧ k ≤ n ∧ St w No w' [])
   (σ' := [(4, .int .i64 ((0 : Nat) : Int)), (3, .string (bs [])), (0, .slice a n c)]) (n := n) ⟨rfl, rfl, rfl, trivial⟩ ⟨0, rfl, rfl, Nat.zero_le _, hS⟩ ?_
 clear hS
 rintro _ w1 q ⟨k, rfl, rfl, hk, hS⟩
 have hl1 := lines_len (l := xs.take k) fun r hr => (numR_of (hg.2 r (List.mem_of_mem_take hr))).1
 rw [List.length_take] at hl1
 conv=>whnf
 refine brD (fun h3 => ?_) (fun h3 => ?_)
 · obtain ⟨b0, o0, x, hxk, _, rfl, _, hc⟩ := hx.at (k := k) (by omega)
   have hst := lines_step hxk
   obtain ⟨hp0, hp2, hlo, hlt, hto⟩ := bad_facts (hg.2 x (List.mem_of_getElem? hxk))
   obtain ⟨al, ou, pr, lo, tp⟩ := x
   dsimp only at hp0 hp2 hlo hlt hto
   obtain ⟨lo, rfl⟩ : ∃ j : Nat, lo = j := ⟨lo.toNat, by omega⟩
   obtain ⟨tp, rfl⟩ : ∃ j : Nat, tp = j := ⟨tp.toNat, by omega⟩
   have hpr : 0 ≤ pr ∧ pr ≤ 2 := ⟨hp0, hp2⟩
   have hlol := itoa_len5 (v := (lo : Int)) (by omega) (by omega)
   have htol := itoa_len5 (v := (tp : Int)) (by omega) (by omega)
   have hpl : (protoB pr).length ≤ 3 := by
     unfold protoB
     split
     · decide
     · split <;> decide
   conv=>whnf
   refine ixO ?_
   conv=>whnf
   refine hS.lar (l := encRule ⟨al, ou, pr, lo, tp⟩) rfl hc id ?_
   conv=>whnf
   refine hS.new (fun b5 w' hb5 hS => ?_)
   conv=>whnf
   refine hS.st 0 rfl (lbO rfl) rfl (fun w' hS => ?_)
   replace hS : St w No w' [blk b5 98 (encRule ⟨al, ou, pr, lo, tp⟩)] := hS
   cases al with
   | false =>
     conv=>whnf
     refine hS.ld 0 rfl rfl ?_
     cases ou with
     | false =>
       conv=>whnf
       refine hS.ld 0 rfl rfl ?_
       conv=>whnf
       refine drawT tabOk mixed [11] (No) (.take 0 (.take 1 (.take 2 (.take 3 (.take 4 (.take 5 (.take 6 (.take 8 (.take 9 (.take 14 (.take 15 (.take 19 (.take 20 (.alt 7 (.take 10 (.alt 11 (.take 12 (.take 13 (.alt 16 (.take 17 (.take 18 (.alt 21 (.take 22 (.take 23 (.take 24 .fin))) .fin))) .fin))) (.alt 16 (.alt 11 (.take 12 (.take 13 (.take 17 (.take 18 (.alt 21 (.take 22 (.take 23 (.take 24 .fin))) .fin))))) (.alt 21 (.alt 11 (.take 12 (.take 13 (.take 17 (.take 18 (.take 22 (.take 23 (.take 24 .fin))))))) .fin) .fin)) .fin))) (.alt 16 (.alt 7 (.take 10 (.alt 11 (.take 12 (.take 13 (.take 17 (.take 18 (.alt 21 (.take 22 (.take 23 (.take 24 .fin))) .fin))))) (.alt 21 (.alt 11 (.take 12 (.take 13 (.take 17 (.take 18 (.take 22 (.take 23 (.take 24 .fin))))))) .fin) .fin))) (.alt 21 (.alt 7 (.take 10 (.alt 11 (.take 12 (.take 13 (.take 17 (.take 18 (.take 22 (.take 23 (.take 24 .fin))))))) .fin)) .fin) .fin)) .fin))))))))))))))) (by kernel_rfl) ?_
       rintro w1 rfl
       replace hS := hS.drew
       have hK := hS.ref No
       repeat' ((conv => whnf); first | refine And.intro ?_ ?_ | refine rgO ?_ | refine IdxC.mk (by dsimp only; omega) (by dsimp only; omega) ?_ | refine hS.ldF 0 rfl rfl id ?_ | refine addS (by simp only [List.length_append, List.length_cons, List.length_nil]; omega) ?_ | (refine (decimal_ok lo (by omega) _).mono ?_; rintro v w5 ⟨rfl, hx'⟩; replace hS := hS.no hx'; replace hK := hK.trans hx'; clear hx'; refine KeepC.mk hK ?_) | (refine (decimal_ok tp (by omega) _).mono ?_; rintro v w5 ⟨rfl, hx'⟩; replace hS := hS.no hx'; replace hK := hK.trans hx'; clear hx'; refine KeepC.mk hK ?_) | (refine hS.litX Tryz.underlying22 (sz := 1) (by kernel_rfl) (z := .string (bs [])) (by kernel_rfl) rfl rfl (cs := [.string (bs sAny), .string (bs sUdp), .string (bs sTcp)]) (by rfl) (fun b9 w5 hb9 hx' hS => ?_); replace hK := hK.trans hx'; clear hx'; refine KeepC.mk hK ?_) | refine hS.ld 1 rfl (v := .string (bs (protoB pr))) (protoB_at hpr) (KeepC.mk hK ?_))
       all_goals
         refine LoopE.mk ⟨_, [(4, .int .i64 ((k + 1 : Nat) : Int)), (3, .string (bs (linesB (xs.take (k + 1))))), (0, _)], ?_, ⟨rfl, ?_, rfl, trivial⟩, ⟨k + 1, rfl, rfl, by omega, hS.keep 0⟩⟩
         · omega
         · refine congrArg (fun l => some (Value.string (bs l))) ?_
           rw [hst]
           simp [RuleS.line, RuleS.words, Lib.join_cons, Lib.joinTail, sAllow, sDeny, sOut, sIn]
     | true =>
       conv=>whnf
       refine hS.ld 0 rfl rfl ?_
       conv=>whnf
       refine drawT tabOk mixed [11] (No) (.take 0 (.take 1 (.take 2 (.take 3 (.take 4 (.take 5 (.take 6 (.take 8 (.take 9 (.take 14 (.take 15 (.take 19 (.take 20 (.alt 7 (.take 10 (.alt 11 (.take 12 (.take 13 (.alt 16 (.take 17 (.take 18 (.alt 21 (.take 22 (.take 23 (.take 24 .fin))) .fin))) .fin))) (.alt 16 (.alt 11 (.take 12 (.take 13 (.take 17 (.take 18 (.alt 21 (.take 22 (.take 23 (.take 24 .fin))) .fin))))) (.alt 21 (.alt 11 (.take 12 (.take 13 (.take 17 (.take 18 (.take 22 (.take 23 (.take 24 .fin))))))) .fin) .fin)) .fin))) (.alt 16 (.alt 7 (.take 10 (.alt 11 (.take 12 (.take 13 (.take 17 (.take 18 (.alt 21 (.take 22 (.take 23 (.take 24 .fin))) .fin))))) (.alt 21 (.alt 11 (.take 12 (.take 13 (.take 17 (.take 18 (.take 22 (.take 23 (.take 24 .fin))))))) .fin) .fin))) (.alt 21 (.alt 7 (.take 10 (.alt 11 (.take 12 (.take 13 (.take 17 (.take 18 (.take 22 (.take 23 (.take 24 .fin))))))) .fin)) .fin) .fin)) .fin))))))))))))))) (by kernel_rfl) ?_
       rintro w1 rfl
       replace hS := hS.drew
       have hK := hS.ref No
       repeat' ((conv => whnf); first | refine And.intro ?_ ?_ | refine rgO ?_ | refine IdxC.mk (by dsimp only; omega) (by dsimp only; omega) ?_ | refine hS.ldF 0 rfl rfl id ?_ | refine addS (by simp only [List.length_append, List.length_cons, List.length_nil]; omega) ?_ | (refine (decimal_ok lo (by omega) _).mono ?_; rintro v w5 ⟨rfl, hx'⟩; replace hS := hS.no hx'; replace hK := hK.trans hx'; clear hx'; refine KeepC.mk hK ?_) | (refine (decimal_ok tp (by omega) _).mono ?_; rintro v w5 ⟨rfl, hx'⟩; replace hS := hS.no hx'; replace hK := hK.trans hx'; clear hx'; refine KeepC.mk hK ?_) | (refine hS.litX Tryz.underlying22 (sz := 1) (by kernel_rfl) (z := .string (bs [])) (by kernel_rfl) rfl rfl (cs := [.string (bs sAny), .string (bs sUdp), .string (bs sTcp)]) (by rfl) (fun b9 w5 hb9 hx' hS => ?_); replace hK := hK.trans hx'; clear hx'; refine KeepC.mk hK ?_) | refine hS.ld 1 rfl (v := .string (bs (protoB pr))) (protoB_at hpr) (KeepC.mk hK ?_))
       all_goals
         refine LoopE.mk ⟨_, [(4, .int .i64 ((k + 1 : Nat) : Int)), (3, .string (bs (linesB (xs.take (k + 1))))), (0, _)], ?_, ⟨rfl, ?_, rfl, trivial⟩, ⟨k + 1, rfl, rfl, by omega, hS.keep 0⟩⟩
         · omega
         · refine congrArg (fun l => some (Value.string (bs l))) ?_
           rw [hst]
           simp [RuleS.line, RuleS.words, Lib.join_cons, Lib.joinTail, sAllow, sDeny, sOut, sIn]
   | true =>
     conv=>whnf
     refine hS.ld 0 rfl rfl ?_
     cases ou with
     | false =>
       conv=>whnf
       refine hS.ld 0 rfl rfl ?_
       conv=>whnf
       refine drawT tabOk mixed [11] (No) (.take 0 (.take 1 (.take 2 (.take 3 (.take 4 (.take 5 (.take 6 (.take 8 (.take 9 (.take 14 (.take 15 (.take 19 (.take 20 (.alt 7 (.take 10 (.alt 11 (.take 12 (.take 13 (.alt 16 (.take 17 (.take 18 (.alt 21 (.take 22 (.take 23 (.take 24 .fin))) .fin))) .fin))) (.alt 16 (.alt 11 (.take 12 (.take 13 (.take 17 (.take 18 (.alt 21 (.take 22 (.take 23 (.take 24 .fin))) .fin))))) (.alt 21 (.alt 11 (.take 12 (.take 13 (.take 17 (.take 18 (.take 22 (.take 23 (.take 24 .fin))))))) .fin) .fin)) .fin))) (.alt 16 (.alt 7 (.take 10 (.alt 11 (.take 12 (.take 13 (.take 17 (.take 18 (.alt 21 (.take 22 (.take 23 (.take 24 .fin))) .fin))))) (.alt 21 (.alt 11 (.take 12 (.take 13 (.take 17 (.take 18 (.take 22 (.take 23 (.take 24 .fin))))))) .fin) .fin))) (.alt 21 (.alt 7 (.take 10 (.alt 11 (.take 12 (.take 13 (.take 17 (.take 18 (.take 22 (.take 23 (.take 24 .fin))))))) .fin)) .fin) .fin)) .fin))))))))))))))) (by kernel_rfl) ?_
       rintro w1 rfl
       replace hS := hS.drew
       have hK := hS.ref No
       repeat' ((conv => whnf); first | refine And.intro ?_ ?_ | refine rgO ?_ | refine IdxC.mk (by dsimp only; omega) (by dsimp only; omega) ?_ | refine hS.ldF 0 rfl rfl id ?_ | refine addS (by simp only [List.length_append, List.length_cons, List.length_nil]; omega) ?_ | (refine (decimal_ok lo (by omega) _).mono ?_; rintro v w5 ⟨rfl, hx'⟩; replace hS := hS.no hx'; replace hK := hK.trans hx'; clear hx'; refine KeepC.mk hK ?_) | (refine (decimal_ok tp (by omega) _).mono ?_; rintro v w5 ⟨rfl, hx'⟩; replace hS := hS.no hx'; replace hK := hK.trans hx'; clear hx'; refine KeepC.mk hK ?_) | (refine hS.litX Tryz.underlying22 (sz := 1) (by kernel_rfl) (z := .string (bs [])) (by kernel_rfl) rfl rfl (cs := [.string (bs sAny), .string (bs sUdp), .string (bs sTcp)]) (by rfl) (fun b9 w5 hb9 hx' hS => ?_); replace hK := hK.trans hx'; clear hx'; refine KeepC.mk hK ?_) | refine hS.ld 1 rfl (v := .string (bs (protoB pr))) (protoB_at hpr) (KeepC.mk hK ?_))
       all_goals
         refine LoopE.mk ⟨_, [(4, .int .i64 ((k + 1 : Nat) : Int)), (3, .string (bs (linesB (xs.take (k + 1))))), (0, _)], ?_, ⟨rfl, ?_, rfl, trivial⟩, ⟨k + 1, rfl, rfl, by omega, hS.keep 0⟩⟩
         · omega
         · refine congrArg (fun l => some (Value.string (bs l))) ?_
           rw [hst]
           simp [RuleS.line, RuleS.words, Lib.join_cons, Lib.joinTail, sAllow, sDeny, sOut, sIn]
     | true =>
       conv=>whnf
       refine hS.ld 0 rfl rfl ?_
       conv=>whnf
       refine drawT tabOk mixed [11] (No) (.take 0 (.take 1 (.take 2 (.take 3 (.take 4 (.take 5 (.take 6 (.take 8 (.take 9 (.take 14 (.take 15 (.take 19 (.take 20 (.alt 7 (.take 10 (.alt 11 (.take 12 (.take 13 (.alt 16 (.take 17 (.take 18 (.alt 21 (.take 22 (.take 23 (.take 24 .fin))) .fin))) .fin))) (.alt 16 (.alt 11 (.take 12 (.take 13 (.take 17 (.take 18 (.alt 21 (.take 22 (.take 23 (.take 24 .fin))) .fin))))) (.alt 21 (.alt 11 (.take 12 (.take 13 (.take 17 (.take 18 (.take 22 (.take 23 (.take 24 .fin))))))) .fin) .fin)) .fin))) (.alt 16 (.alt 7 (.take 10 (.alt 11 (.take 12 (.take 13 (.take 17 (.take 18 (.alt 21 (.take 22 (.take 23 (.take 24 .fin))) .fin))))) (.alt 21 (.alt 11 (.take 12 (.take 13 (.take 17 (.take 18 (.take 22 (.take 23 (.take 24 .fin))))))) .fin) .fin))) (.alt 21 (.alt 7 (.take 10 (.alt 11 (.take 12 (.take 13 (.take 17 (.take 18 (.take 22 (.take 23 (.take 24 .fin))))))) .fin)) .fin) .fin)) .fin))))))))))))))) (by kernel_rfl) ?_
       rintro w1 rfl
       replace hS := hS.drew
       have hK := hS.ref No
       repeat' ((conv => whnf); first | refine And.intro ?_ ?_ | refine rgO ?_ | refine IdxC.mk (by dsimp only; omega) (by dsimp only; omega) ?_ | refine hS.ldF 0 rfl rfl id ?_ | refine addS (by simp only [List.length_append, List.length_cons, List.length_nil]; omega) ?_ | (refine (decimal_ok lo (by omega) _).mono ?_; rintro v w5 ⟨rfl, hx'⟩; replace hS := hS.no hx'; replace hK := hK.trans hx'; clear hx'; refine KeepC.mk hK ?_) | (refine (decimal_ok tp (by omega) _).mono ?_; rintro v w5 ⟨rfl, hx'⟩; replace hS := hS.no hx'; replace hK := hK.trans hx'; clear hx'; refine KeepC.mk hK ?_) | (refine hS.litX Tryz.underlying22 (sz := 1) (by kernel_rfl) (z := .string (bs [])) (by kernel_rfl) rfl rfl (cs := [.string (bs sAny), .string (bs sUdp), .string (bs sTcp)]) (by rfl) (fun b9 w5 hb9 hx' hS => ?_); replace hK := hK.trans hx'; clear hx'; refine KeepC.mk hK ?_) | refine hS.ld 1 rfl (v := .string (bs (protoB pr))) (protoB_at hpr) (KeepC.mk hK ?_))
       all_goals
         refine LoopE.mk ⟨_, [(4, .int .i64 ((k + 1 : Nat) : Int)), (3, .string (bs (linesB (xs.take (k + 1))))), (0, _)], ?_, ⟨rfl, ?_, rfl, trivial⟩, ⟨k + 1, rfl, rfl, by omega, hS.keep 0⟩⟩
         · omega
         · refine congrArg (fun l => some (Value.string (bs l))) ?_
           rw [hst]
           simp [RuleS.line, RuleS.words, Lib.join_cons, Lib.joinTail, sAllow, sDeny, sOut, sIn]
 · repeat' ((conv => whnf); first | refine RetC.mk ?_ | refine nzO ?_ | refine rgO ?_ | refine ixO ?_ | (first|apply brD|apply brND|apply brN|apply brI) <;> (intro))
   have : k = n := by omega
   subst this
   rw [List.take_of_length_le (by omega)]
   exact ⟨rfl, hS.ext⟩
end
end Go.Proofs.YtogjajjdaoihdaaGreatDoor

namespace Go.Proofs.YtogjajjdaoihdaaGreatDoor.Ev
set_option maxRecDepth 20000
open Go Go.ChangeShapes Go.WideShapes Go.ChangeAt Go.RowKit

theorem laidMetH_layVars {P : Program} {w0 w' : World} {L : List (String × DataW Unit)} {fuel : Nat}
   (hh : w'.heap = (w0.layVars P (L.filter fun x => x.2.handleName?.isNone)).heap)
   (hf : w0.layFits P (L.filter fun x => x.2.handleName?.isNone) [] = true)
   (hi : w0.layIfaces P (L.filter fun x => x.2.handleName?.isNone) w' = true)
   (hH : (L.filter fun x => x.2.handleName?.isSome && x.2.funcsIn?.isNone).all (handleAtB P w') = true)
   (hF : funcsRun P w' fuel ((funcsListed L).map (·.1)) = some ((funcsListed L).map (·.2.funcsOut))) : laidMetH P L w' := by
 refine laidMetH_of_parts3 (fuel := fuel) ?_ hH hF
 generalize (L.filter fun x => x.2.handleName?.isNone) = laid at hh hf hi ⊢
 have e1 : (laid.filter fun x => (laid.map (·.1)).contains x.1) = laid := List.filter_eq_self.2 fun x hx => List.contains_iff_mem.2 (List.mem_map.2 ⟨x, hx, rfl⟩)
 have e2 : (laid.filter fun x => !(laid.map (·.1)).contains x.1) = [] := List.filter_eq_nil_iff.2 fun x hx => by rw [List.contains_iff_mem.2 (List.mem_map.2 ⟨x, hx, rfl⟩)]; simp
 exact laidMet_layVars (w0 := w0) (laid.map (·.1)) [] (by rw [e1]; exact hh) (by rw [e1]; exact hf) (by rw [e1]; exact hi) (by rw [e2]; exact LaidIn.none)
theorem law_liftedS {C : Checked} {f : FuncId} {fn : Func} {s : ChangeSpec} {tb : TypeId} (L : List (String × DataW Unit)) (os : Os) (started : os.Started) (H : Type) (enc : TypeId × Value → H)
   (own : ownKnob C.prog.godebug = none) (hbody : fn.body.isNone = false) (noInit : C.prog.inits.idxOf? f = none) (hfn : C.prog.funcs[f]? = some fn) (hvars : s.vars = [])
   (hs : ∀ ds : List (DataW H), ds.length = fn.params.toList.length → (s.fn H (ds ++ [])).results = [.lit (.bool true)] ∧ (s.fn H (ds ++ [])).args = ds ∧ (s.fn H (ds ++ [])).vars = [])
   (hres : fn.resultTypes = #[tb]) (hbool : C.prog.underlying tb = some .bool) (hlaid : laidOutB C.prog = true) (hread : (fn.params.toList.all fun t => C.prog.readableRec t && decide (t < C.prog.types.size)) = true)
   (witness : ∃ (w : World) (tape : Tape) (i : Input), w.os = os ∧ (w.forCall tape i).Shaped C.prog ∧ i.vars = [] ∧ Input.okWide C.prog (w.forCall tape i) .any w.heap.size f i ∧
     ((s.pre enc C.prog fn [] false (w.forCall tape i).memory i.args ∧ laidMetH C.prog L (w.forCall tape i).memory) ∧ sizedMet enc C.prog fn (OpenSpec.ofChange s) false (w.forCall tape i).memory i.args) ∧ ({} : Assume).holds C.prog (lone (Frame.enter C.prog f i.args .normal) [] (w.forCall tape i)))
   (walk : ∀ (W : World) (args : List Value), W.ShapedOpen C.prog → ArgsOk C.prog W fn.params.toList args → laidMetH C.prog L W → CallC C.prog f args.toArray W fun v w' => v = .bool true ∧ Ext No W w') :
   ReturnsInHanded {} C os f .any (fun w args => (s.pre enc C.prog fn [] false w args ∧ laidMetH C.prog L w) ∧ sizedMet enc C.prog fn (OpenSpec.ofChange s) false w args) (s.post enc C.prog fn false true false false) := by
 refine returnsInHanded_of_calls own started noInit witness ?_
 intro w tape i _ hsh _ hok hpre _
 obtain ⟨_, _, _, fn', hfn', _, _, _, _, hval⟩ := hok
 obtain rfl : fn' = fn := Option.some.inj (hfn'.symm.trans hfn)
 obtain ⟨⟨⟨ds, gs, before, hw, _⟩, hx⟩, _⟩ := hpre
 have hW := DataW.Whole.of_heap (w' := w.forCall tape i) (by rfl) hw
 have hL : laidMetH C.prog L (w.forCall tape i) := hx.of_heap (by rfl)
 generalize w.forCall tape i = W at hval hW hL hsh ⊢
 generalize w.heap.size = base at hval
 generalize i.args = args at hval hW ⊢
 have goal : Calls C.prog f args W fun e W' => ∃ v, e = .returned v ∧ s.post enc C.prog fn' false true false false W args v W' := by
   have hW' := hW
   obtain ⟨p, q, hA, hV, rfl, hfz, hnd⟩ := hW
   rw [hvars] at hV
   obtain ⟨rfl, rfl⟩ := trodVars_none hV
   have hok := argsOk_of fn'.params.toList args.toList ds p (fun j t v ht hv => hval j t v (by simpa using ht) (by simpa using hv)) hA
   have hlen : ds.length = fn'.params.toList.length := by
     have : ∀ (ts : List TypeId) (vs : List Value) (ds : List (DataW H)) (ps : List MemPlace), DataW.TrodAll enc C.prog W 0 (fun _ => true) true ts vs ds ps → ds.length = ts.length := by
       intro ts
       induction ts with
       | nil => intro vs ds ps h; cases vs <;> cases ds <;> simp_all [DataW.TrodAll]
       | cons t ts ih =>
         intro vs ds ps h
         obtain ⟨v, vs', d, ds', p, q, rfl, rfl, rfl, h1, h2⟩ := trodAll_cons h
         simp [ih _ _ _ h2]
     exact this _ _ _ _ hA
   have hc := (walk W args.toList hsh hok hL).calls hfn hbody
   rw [Array.toArray_toList] at hc
   refine hc.mono fun e W' ⟨v, he, hv, hext⟩ => ?_
   subst he hv
   obtain ⟨e1, e2, e3⟩ := hs ds hlen
   have hlt : ∀ x ∈ p, x.block < W.heap.size := fun x hx => hW'.lt x (by simpa using hx)
   refine ⟨_, rfl, ds, [], p ++ [], [], p, [], hW', ?_, ?_, ?_, hext.below.frame _, fun h => by cases h⟩
   · rw [e1, hres]
     exact trodAll_mk1 (shut_bool hbool true)
   · rw [e2]
     exact trodAll_ext hlaid hext.below _ _ _ _ hread hA hlt
   · rw [hvars, e3]
     rfl
 refine goal.mono fun e W' ⟨v, he, hp⟩ => ?_
 subst he
 exact ChangeSpec.post_blind hp
end Go.Proofs.YtogjajjdaoihdaaGreatDoor.Ev
namespace Go.Proofs.YtogjajjdaoihdaaGreatDoor
open Go Ev Go.RowKit
theorem maxL_of {W : World} (h : W.ShapedOpen Tryz.prog) : MaxL W :=
 cell_of_shapedOpen_int (g := 14) (t := 3) (zero := #[.int .i64 0]) h (of_decide_eq_true (by kernel_rfl)) (by kernel_rfl) rfl (by kernel_rfl) (by kernel_rfl) Tryz.underlying3
theorem sent_of {n : String} {text : List UInt8} {L : List (String × DataW Unit)} {W : World} {g : Nat} (hl : laidMetH Tryz.prog L W) (hm : (n, .iface "*errors.errorString" (.ptr (.agg [.lit (.string text)]))) ∈ L)
   (hg : Tryz.prog.globalNamed n = some g) (ht : (Tryz.prog.globals[g]?).map (·.type) = some 25) : ∃ e, W.cell? ⟨g, 0, none⟩ = some e ∧ (e = .nilIface ∨ ∃ t p, e = .iface t p) := by
 obtain ⟨f, hf⟩ : ∃ f : Field, Tryz.prog.underlying 440 = some (.struct #[f]) ∧ f.type = 9 ∧ f.offset = 0 := ⟨_, Tryz.underlying440, rfl, rfl⟩
 obtain ⟨a, h1, _⟩ := sentinel1 (laid_one hl hm rfl) hg ht Tryz.underlying25 errStr_only Tryz.underlying438 hf.1 hf.2.1 hf.2.2 Tryz.underlying9 (by kernel_rfl) (by kernel_rfl)
 exact ⟨_, h1, .inr ⟨_, _, rfl⟩⟩
def synB : List UInt8 := [105, 110, 118, 97, 108, 105, 100, 32, 115, 121, 110, 116, 97, 120]
def rngB : List UInt8 := [118, 97, 108, 117, 101, 32, 111, 117, 116, 32, 111, 102, 32, 114, 97, 110, 103, 101]
theorem numV_of {L : List (String × DataW Unit)} {W : World} (hl : laidMetH Tryz.prog L W) (h1 : ("strconv.ErrSyntax", .iface "*errors.errorString" (.ptr (.agg [.lit (.string synB)]))) ∈ L) (h2 : ("strconv.ErrRange", .iface "*errors.errorString" (.ptr (.agg [.lit (.string rngB)]))) ∈ L) : NumV W :=
 ⟨sent_of hl h1 (by kernel_rfl) (by kernel_rfl), sent_of hl h2 (by kernel_rfl) (by kernel_rfl)⟩
end Go.Proofs.YtogjajjdaoihdaaGreatDoor

namespace Go.Proofs.YtogjajjdaoihdaaGreatDoor
set_option maxRecDepth 20000
open Go Ev Go.RowKit
theorem errRow_text (k : Nat) (h0 : 1 ≤ k) (h1 : k < 12) : ∃ n, errRow (H := Unit) k = (n, .iface "*errors.errorString" (.ptr (.agg [.lit (.string (errT k))]))) := by
 have hk : k = 1 ∨ k = 2 ∨ k = 3 ∨ k = 4 ∨ k = 5 ∨ k = 6 ∨ k = 7 ∨ k = 8 ∨ k = 9 ∨ k = 10 ∨ k = 11 := by omega
 rcases hk with rfl | rfl | rfl | rfl | rfl | rfl | rfl | rfl | rfl | rfl | rfl <;> exact ⟨_, rfl⟩
theorem sentinelT {P : Program} {n nm : String} {text : List UInt8} {W : World} {g : Nat} {ti tp te ts : TypeId} {ms : Array (String × TypeId)} {f : Field}
   (h : laidMet P [(n, .iface nm (.ptr (.agg [.lit (.string text)])))] W)
   (hg : P.globalNamed n = some g) (ht : (P.globals[g]?).map (·.type) = some ti) (hi : P.underlying ti = some (.interface ms)) (hrow : ∀ u, P.typeName? 3 u = some nm → u = tp)
   (hp : P.underlying tp = some (.pointer te)) (he : P.underlying te = some (.struct #[f])) (hft : f.type = ts) (hfo : f.offset = 0) (hs : P.underlying ts = some .string) (hc : P.cellsOf te = 1) (hcs : P.cellsOf ts = 1) :
   ∃ (a : Addr) (s : ByteArray), W.cell? ⟨g, 0, none⟩ = some (.iface tp (.pointer (some a))) ∧ W.cell? a = some (.string s) ∧ s.data.toList = text := by
 obtain ⟨ps, ⟨g0, t0, cs0, f0, p0, q0, hg0, ht0, hv0, hd0, _, e0⟩, _, hrows⟩ := h
 obtain rfl := Option.some.inj (hg.symm.trans hg0)
 obtain rfl := Option.some.inj (ht.symm.trans ht0)
 subst e0
 obtain ⟨l0⟩ := cs0
 have ok0 : ∀ u v, l0 = [.iface u v] → Value.okWide P W .any 0 u v := fun u v e => by
   subst e
   exact (hrows g 0 (by simp [MemPlace.row])).2 u v (by simpa using World.var?_cell hg0 hv0 0)
 obtain ⟨a0, s0, rfl, hc0, hs0, hz0, rfl⟩ := errorString_of_trod hi hrow hp he hft hfo hs hc hcs hd0 ok0
 exact ⟨a0, s0, by simpa using World.var?_cell hg0 hv0 0, hc0, hs0⟩
theorem texts_of {L : List (String × DataW Unit)} {W : World} {E : Nat → Addr} {n : Nat} (hl : laidMetH Tryz.prog L W) (hE : Errs W E n allErrs) (hm : ∀ k ∈ allErrs, errRow k ∈ L) (k : Nat) (h0 : 1 ≤ k) (h1 : k < 12) : W.cell? ⟨(E k).block, (E k).off, (E k).spot⟩ = some (.string (bs (errT k))) := by
 have hk : k ∈ allErrs := by
   have hk : k = 1 ∨ k = 2 ∨ k = 3 ∨ k = 4 ∨ k = 5 ∨ k = 6 ∨ k = 7 ∨ k = 8 ∨ k = 9 ∨ k = 10 ∨ k = 11 := by omega
   rcases hk with rfl | rfl | rfl | rfl | rfl | rfl | rfl | rfl | rfl | rfl | rfl <;> decide
 obtain ⟨nm, hf⟩ := errRow_text k h0 h1
 have hin := hm k hk
 obtain ⟨hg, ht⟩ := errRow_named k
 rw [hf] at hin hg
 obtain ⟨f, hf1, hf2, hf3⟩ : ∃ f : Field, Tryz.prog.underlying 440 = some (.struct #[f]) ∧ f.type = 9 ∧ f.offset = 0 := ⟨_, Tryz.underlying440, rfl, rfl⟩
 obtain ⟨a, s, g1, g2, g3⟩ := sentinelT (laid_one hl hin rfl) hg ht Tryz.underlying25 errStr_only Tryz.underlying438 hf1 hf2 hf3 Tryz.underlying9 (by kernel_rfl) (by kernel_rfl)
 have h2 := hE.at_ k (List.contains_iff_mem.2 hk)
 rw [h2] at g1
 simp only [Option.some.injEq, Value.iface.injEq, Value.pointer.injEq, true_and] at g1
 rw [show (⟨(E k).block, (E k).off, (E k).spot⟩ : Addr) = E k from rfl, g1, g2]
 obtain ⟨l, rfl⟩ := bs_of s
 have h3 : l = errT k := by simpa [bs] using g3
 rw [h3]
end Go.Proofs.YtogjajjdaoihdaaGreatDoor

namespace Go.Proofs.YtogjajjdaoihdaaGreatDoor
set_option maxRecDepth 20000
open Go Ev

def RuleS.I (r : RuleS) : Prop := I64 r.proto ∧ I64 r.low ∧ I64 r.top
def PktS.I (p : PktS) : Prop := I64 p.proto ∧ I64 p.sa ∧ I64 p.sp ∧ I64 p.da ∧ I64 p.dp ∧ I64 p.flags
theorem rule_of {ps : List Pr} (hk : ps.map Pr.k = [.bool, .bool, .int, .int, .int]) (hok : ∀ p ∈ ps, p.ok) : ∃ r : RuleS, ps.map Pr.v = encRule r ∧ r.I := by
 obtain ⟨p1, r, rfl, g1, hk⟩ := kinds_cons hk
 obtain ⟨p2, r, rfl, g2, hk⟩ := kinds_cons hk
 obtain ⟨p3, r, rfl, g3, hk⟩ := kinds_cons hk
 obtain ⟨p4, r, rfl, g4, hk⟩ := kinds_cons hk
 obtain ⟨p5, r, rfl, g5, hk⟩ := kinds_cons hk
 obtain rfl := kinds_nil hk
 obtain ⟨n1, rfl⟩ := k_bool g1
 obtain ⟨n2, rfl⟩ := k_bool g2
 obtain ⟨n3, rfl⟩ := k_int g3
 obtain ⟨n4, rfl⟩ := k_int g4
 obtain ⟨n5, rfl⟩ := k_int g5
 exact ⟨⟨n1, n2, n3, n4, n5⟩, rfl, hok (.int n3) (by simp), hok (.int n4) (by simp), hok (.int n5) (by simp)⟩
theorem pkt_of {ps : List Pr} (hk : ps.map Pr.k = [.int, .int, .int, .int, .int, .int]) (hok : ∀ p ∈ ps, p.ok) : ∃ r : PktS, ps.map Pr.v = encPkt r ∧ r.I := by
 obtain ⟨p1, r, rfl, g1, hk⟩ := kinds_cons hk
 obtain ⟨p2, r, rfl, g2, hk⟩ := kinds_cons hk
 obtain ⟨p3, r, rfl, g3, hk⟩ := kinds_cons hk
 obtain ⟨p4, r, rfl, g4, hk⟩ := kinds_cons hk
 obtain ⟨p5, r, rfl, g5, hk⟩ := kinds_cons hk
 obtain ⟨p6, r, rfl, g6, hk⟩ := kinds_cons hk
 obtain rfl := kinds_nil hk
 obtain ⟨n1, rfl⟩ := k_int g1
 obtain ⟨n2, rfl⟩ := k_int g2
 obtain ⟨n3, rfl⟩ := k_int g3
 obtain ⟨n4, rfl⟩ := k_int g4
 obtain ⟨n5, rfl⟩ := k_int g5
 obtain ⟨n6, rfl⟩ := k_int g6
 exact ⟨⟨n1, n2, n3, n4, n5, n6⟩, rfl, hok (.int n1) (by simp), hok (.int n2) (by simp), hok (.int n3) (by simp), hok (.int n4) (by simp), hok (.int n5) (by simp), hok (.int n6) (by simp)⟩
theorem dec_rule {w : World} {d : Nat} (hd : 10 ≤ d) : Dec Tryz.prog w d 98 encRule RuleS.I := by
 intro cs h
 have h1 : flatK Tryz.prog 10 98 = some [.bool, .bool, .int, .int, .int] := by kernel_rfl
 have h2 : Tryz.prog.cellsOf 98 = 5 := by kernel_rfl
 obtain ⟨ps, rfl, hk, hok⟩ := shp_flat 10 d _ _ cs h1 hd h2 h
 obtain ⟨r, hr, hI⟩ := rule_of hk hok
 exact ⟨r, hr, hI⟩
end Go.Proofs.YtogjajjdaoihdaaGreatDoor

namespace Go.Proofs.YtogjajjdaoihdaaGreatDoor
set_option maxRecDepth 20000
open Go Ev
def encLV (x : LineV) : List Value := .string (bs x.word) :: .slice x.ra x.rn x.rc :: encPkt x.p
structure LineV.Ok (W : World) (x : LineV) : Prop where
 ns : Slc W 1 encI (fun v => I64 v) x.ra x.rn x.ns
 p : x.p.IP
theorem len8 {α : Type} {l : List α} (h : l.length = 8) : ∃ a b c d e f g i, l = [a, b, c, d, e, f, g, i] := by
 match l, h with
 | [a, b, c, d, e, f, g, i], _ => exact ⟨a, b, c, d, e, f, g, i, rfl⟩
theorem dec_pktI {w : World} {d : Nat} (hd : 10 ≤ d) : Dec Tryz.prog w d 41 encPkt PktS.I := by
 intro cs h
 have h1 : flatK Tryz.prog 10 41 = some [.int, .int, .int, .int, .int, .int] := by kernel_rfl
 have h2 : Tryz.prog.cellsOf 41 = 6 := by kernel_rfl
 obtain ⟨ps, rfl, hk, hok⟩ := shp_flat 10 d _ _ cs h1 hd h2 h
 obtain ⟨r, hr, hI⟩ := pkt_of hk hok
 exact ⟨r, hr, hI⟩
theorem dec_line {W : World} {c d e : Nat} (hc : 10 ≤ c) (hd : d = c + 1) (he : e = d + 1) : Dec Tryz.prog W e 49 encLV (LineV.Ok W) := by
 intro cs h
 obtain ⟨hl, hff⟩ := shp_struct he Tryz.underlying49 h
 have hl2 : cs.length = 8 := hl.trans (by kernel_rfl)
 clear hl h
 have c0 : Tryz.prog.cellsOf 9 = 1 := by kernel_rfl
 have c1 : Tryz.prog.cellsOf 47 = 1 := by kernel_rfl
 have c2 : Tryz.prog.cellsOf 41 = 6 := by kernel_rfl
 have h0 : Shp Tryz.prog W d 9 ((cs.drop 0).take (Tryz.prog.cellsOf 9)) := hff 0 _ rfl
 have h1 : Shp Tryz.prog W d 47 ((cs.drop 1).take (Tryz.prog.cellsOf 47)) := hff 1 _ rfl
 have h2 : Shp Tryz.prog W d 41 ((cs.drop 2).take (Tryz.prog.cellsOf 41)) := hff 2 _ rfl
 clear hff
 rw [c0] at h0
 rw [c1] at h1
 rw [c2] at h2
 obtain ⟨x0, x1, x2, x3, x4, x5, x6, x7, rfl⟩ := len8 hl2
 simp only [List.drop_zero, List.drop_succ_cons, List.take_succ_cons, List.take_zero] at h0 h1 h2
 obtain ⟨word, rfl⟩ := stp_str hd Tryz.underlying9 h0
 obtain ⟨l, rfl⟩ := bs_of word
 obtain ⟨ra, rn, rc, rfl⟩ := shp_slice hd Tryz.underlying47 h1
 obtain ⟨ns, hns, _⟩ := shp_slc (sz := 1) (enc := encI) (G := fun v => I64 v) (d := c) hd Tryz.underlying47 (by kernel_rfl) (by decide) (by
   obtain ⟨c', rfl⟩ : ∃ c', c = c' + 1 := ⟨c - 1, by omega⟩
   exact dec_int Tryz.underlying3) h1
 obtain ⟨p, hp, hpI⟩ := dec_pktI (by omega) _ h2
 refine ⟨⟨l, ra, rn, rc, ns, p⟩, ?_, hns, hpI⟩
 unfold encLV
 dsimp only
 rw [← hp]
section
variable {w W : World}
theorem text_len {p : PktS} (h : p.IP) : p.text.length ≤ 200 := by
 have e1 := endT_len p.sa p.sp h.2.1 h.2.2.1
 have e2 := endT_len p.da p.dp h.2.2.2.1 h.2.2.2.2.1
 have e3 := ftext_len p.flags
 unfold PktS.text
 split <;> simp only [List.length_append, List.length_cons, List.length_nil] <;> omega
end
end Go.Proofs.YtogjajjdaoihdaaGreatDoor

namespace Go.Proofs.YtogjajjdaoihdaaGreatDoor
set_option maxRecDepth 20000
open Go Ev
section
variable {w : World}
set_option maxHeartbeats 2000000 in
theorem lineOf_ok (x : LineV) (hns : Slc w 1 encI (fun v => I64 v) x.ra x.rn x.ns) (hp : x.p.IP) (h60 : x.word.length ≤ 60) (h5 : x.rn ≤ 5) :
   CallC Tryz.prog 17 #[.agg (encLV x).toArray] w fun v w' => (∃ s k, v = .tuple #[.string (bs s), .bool k] ∧ lineS x = if k = true then some s else none) ∧ Ext No w w' := by
 obtain ⟨word, ra, rn, rc, ns, p⟩ := x
 dsimp only at hns hp h60 h5
 have hl := hns.len
 have htl := text_len hp
 refine fn_intro tabOk Tryz.func17 (by kernel_rfl) rfl Tryz.ntmps17 (lbO rfl) ?_
 have hS := St.start w No
 conv=>whnf
 refine hS.new (fun b1 w' hb1 hS => ?_)
 replace hS : St w No w' [blk b1 49 (encLV ⟨word, ra, rn, rc, ns, p⟩)] := hS
 conv=>whnf
 refine hS.ld 0 rfl rfl ?_
 conv=>whnf
 refine (formOf_ok word _).mono ?_
 rintro v w2 ⟨rfl, rfl⟩
 cases hfw : formW word with
 | none =>
   repeat' ((conv => whnf); first | refine RetC.mk ?_ | refine nzO ?_ | refine rgO ?_ | refine ixO ?_ | (first|apply brD|apply brND|apply brN|apply brI) <;> (intro))
   refine ⟨⟨[], false, rfl, lineS_of ⟨fun h => (by cases h), fun ⟨f, h, _⟩ => ?_⟩ fun h => by cases h⟩, hS.ext⟩
   rw [hfw] at h
   cases h
 | some f =>
   have hbad : ¬ ((f = [112] ∧ p.err = 0) ∨ (f ≠ [112] ∧ Fit f ns)) → lineS ⟨word, ra, rn, rc, ns, p⟩ = if false = true then some [] else none := fun hn => lineS_of ⟨fun h => (by cases h), fun ⟨g, h, hc⟩ => by
     rw [hfw] at h
     cases h
     exact absurd hc hn⟩ fun h => by cases h
   conv=>whnf
   refine eqS2 (b := [112]) ?_
   conv=>whnf
   refine brD (fun h1 => ?_) (fun h1 => ?_)
   · subst h1
     conv=>whnf
     (refine drawS tabOk mixed [] (No) [0, 1, 2, 3, 4, 7, 8, 5, 6, 9, 10, 11, 12] (by kernel_rfl) ?_; rintro w1 rfl; replace hS := hS.drew)
     conv=>whnf
     refine hS.ldF 0 rfl rfl id ?_
     conv=>whnf
     refine addS (b := [32]) (by simp; omega) ?_
     conv=>whnf
     refine hS.laF 0 (l := encPkt p) rfl rfl rfl id ?_
     conv=>whnf
     refine hS.laF 0 (l := encPkt p) rfl rfl rfl id ?_
     conv=>whnf
     refine (packetText_ok p hp _).mono ?_
     rintro v w3 ⟨rfl, hx3⟩
     replace hS := hS.no hx3
     refine KeepC.mk hx3 ?_
     conv=>whnf
     refine addS (by simp; omega) ?_
     conv=>whnf
     refine (perror_ok p _).mono ?_
     rintro v w4 ⟨rfl, hx4⟩
     replace hS := hS.no hx4
     refine KeepC.mk (hx3.trans hx4) ?_
     repeat' ((conv => whnf); first | refine RetC.mk ?_ | refine nzO ?_ | refine rgO ?_ | refine ixO ?_ | (first|apply brD|apply brND|apply brN|apply brI) <;> (intro))
     refine ⟨⟨word ++ [32] ++ p.text, decide (p.err = 0), ?_, lineS_of ⟨fun h => ⟨_, hfw, .inl ⟨rfl, of_decide_eq_true h⟩⟩, fun ⟨g, h, hc⟩ => ?_⟩ fun _ => ?_⟩, hS.ext⟩
     · have he : (((p.err : Nat) : Int) == 0) = decide (p.err = 0) := by
         rw [Bool.eq_iff_iff, beq_iff_eq, decide_eq_true_iff]
         omega
       rw [he]
     · rw [hfw] at h
       cases h
       rcases hc with ⟨_, h⟩ | ⟨h, _⟩
       · exact decide_eq_true h
       · exact absurd rfl h
     · unfold lineT
       rw [if_pos hfw]
   · have hfz : (bs ((some f).getD [])).size = f.length := bs_size f
     conv=>whnf
     refine hS.ld 0 rfl rfl ?_
     conv=>whnf
     refine brND (fun h2 => ?_) (fun h2 => ?_)
     · repeat' ((conv => whnf); first | refine RetC.mk ?_ | refine nzO ?_ | refine rgO ?_ | refine ixO ?_ | (first|apply brD|apply brND|apply brN|apply brI) <;> (intro))
       exact ⟨⟨[], false, rfl, hbad fun h => h.elim (fun h => h1 h.1) fun h => by have := h.2.1; dsimp only at h2; omega⟩, hS.ext⟩
     have hfl : f.length = rn := by dsimp only at h2; omega
     conv=>whnf
     refine hS.ld 0 rfl rfl ?_
     conv=>whnf
     refine loopR tabOk (fun σ w' q => ∃ k : Nat, σ = [(7, .int .i64 (k : Int)), (6, .string (bs (word ++ numsT (ns.take k)))), (4, .string (bs f)), (1, .pointer (some ⟨b1, 0, none⟩))] ∧ q = rn - k ∧ k ≤ rn ∧ (∀ (i : Nat) c n, i < k → f[i]? = some c → ns[i]? = some n → 0 ≤ n ∧ n ≤ 99999 ∧ (c = 115 → n ≤ 1)) ∧ St w No w' [blk b1 49 (encLV ⟨word, ra, rn, rc, ns, p⟩)])
       (σ' := [(7, .int .i64 ((0 : Nat) : Int)), (6, .string (bs word)), (4, .string (bs f)), (1, .pointer (some ⟨b1, 0, none⟩))]) (n := rn) ⟨rfl, rfl, rfl, rfl, trivial⟩ ⟨0, by rw [List.take_zero]; simp [numsT, Lib.joinTail], rfl, Nat.zero_le _, (fun i c n hi => by omega), hS⟩ ?_
     clear hS
     rintro _ w3 q ⟨k, rfl, rfl, hk, hfit, hS⟩
     have hnl : (numsT (ns.take k)).length ≤ 5 * 22 := Nat.le_trans (numsT_len fun n hn => hns.good n (List.mem_of_mem_take hn)) (Nat.mul_le_mul_right _ (by rw [List.length_take]; omega))
     conv=>whnf
     refine hS.ld 0 rfl rfl ?_
     conv=>whnf
     refine brD (fun h3 => ?_) (fun h3 => ?_)
     · obtain ⟨bn, on, n, hnk, hgn, rfl, _, hcn⟩ := hns.at (k := k) (by omega)
       obtain ⟨c, hck⟩ : ∃ c, f[k]? = some c := ⟨_, List.getElem?_eq_getElem (by omega)⟩
       have hil := Lib.itoa_length_le n hgn.1 hgn.2
       conv=>whnf
       refine idxS Tryz.underlying9 rfl hck ?_
       conv=>whnf
       refine eqC ?_
       have hcc : ((c.toNat : Int) == 115) = decide (c = 115) := by
         rw [Bool.eq_iff_iff, beq_iff_eq, decide_eq_true_iff]
         exact ⟨fun h => UInt8.toNat_inj.1 (by show c.toNat = 115; omega), fun h => by rw [h]; rfl⟩
       rw [hcc]
       have hbad := fun (hn : ¬ (0 ≤ n ∧ n ≤ 99999 ∧ (c = 115 → n ≤ 1))) => hbad fun h => h.elim (fun h => h1 h.1) fun h => hn (h.2.2 k c n hck hnk)
       conv=>whnf
       refine brD (fun h6 => ?_) (fun h6 => ?_)
       · have hgood : ¬ n < 0 → ¬ n > 1 → 0 ≤ n ∧ n ≤ 99999 ∧ (c = 115 → n ≤ 1) := fun a b => ⟨by omega, by omega, fun _ => by omega⟩
         conv=>whnf
         refine hS.ld 0 rfl rfl ?_
         conv=>whnf
         refine ixO ?_
         conv=>whnf
         refine hS.ldr (hcn.one 0 rfl) id ?_
         conv=>whnf
         refine brD (fun h7 => ?_) (fun h7 => ?_)
         · repeat' ((conv => whnf); first | refine RetC.mk ?_ | refine nzO ?_ | refine rgO ?_ | refine ixO ?_ | (first|apply brD|apply brND|apply brN|apply brI) <;> (intro))
           exact ⟨⟨[], false, rfl, hbad fun h => by have := h.1; omega⟩, hS.ext⟩
         conv=>whnf
         refine hS.ld 0 rfl rfl ?_
         conv=>whnf
         refine ixO ?_
         conv=>whnf
         refine hS.ldr (hcn.one 0 rfl) id ?_
         conv=>whnf
         refine brD (fun h8 => ?_) (fun h8 => ?_)
         · repeat' ((conv => whnf); first | refine RetC.mk ?_ | refine nzO ?_ | refine rgO ?_ | refine ixO ?_ | (first|apply brD|apply brND|apply brN|apply brI) <;> (intro))
           exact ⟨⟨[], false, rfl, hbad fun h => by (have := h.2.2 h6; omega)⟩, hS.ext⟩
         conv=>whnf
         refine addS (b := [32]) (by simp; omega) ?_
         conv=>whnf
         refine hS.ld 0 rfl rfl ?_
         conv=>whnf
         refine ixO ?_
         conv=>whnf
         refine hS.ldr (hcn.one 0 rfl) id ?_
         conv=>whnf
         refine (decimalZ_ok n hgn _).mono ?_
         rintro v w5 ⟨rfl, hx5⟩
         replace hS := hS.no hx5
         conv=>whnf
         refine addS (by simp; omega) ?_
         rw [show word ++ numsT (ns.take k) ++ [32] ++ Lib.itoa n = word ++ numsT (ns.take (k + 1)) by rw [numsT_step hnk]; simp]
         conv=>whnf
         refine rgO ?_
         conv=>whnf
         refine LoopE.mk ⟨_, [(7, .int .i64 ((k + 1 : Nat) : Int)), (6, _), (4, _), (1, _)], ?_, ⟨rfl, rfl, rfl, rfl, trivial⟩, ⟨k + 1, rfl, rfl, by omega, ?_, hS⟩⟩
         · omega
         · intro i c' n' hi hc' hn'
           by_cases e : i = k
           · subst e
             rw [hck] at hc'
             rw [hnk] at hn'
             cases hc'
             cases hn'
             exact hgood h7 h8
           · exact hfit i c' n' (by omega) hc' hn'
       · have hgood : ¬ n < 0 → ¬ n > 99999 → 0 ≤ n ∧ n ≤ 99999 ∧ (c = 115 → n ≤ 1) := fun a b => ⟨by omega, by omega, fun e => absurd e h6⟩
         conv=>whnf
         refine hS.ld 0 rfl rfl ?_
         conv=>whnf
         refine ixO ?_
         conv=>whnf
         refine hS.ldr (hcn.one 0 rfl) id ?_
         conv=>whnf
         refine brD (fun h7 => ?_) (fun h7 => ?_)
         · repeat' ((conv => whnf); first | refine RetC.mk ?_ | refine nzO ?_ | refine rgO ?_ | refine ixO ?_ | (first|apply brD|apply brND|apply brN|apply brI) <;> (intro))
           exact ⟨⟨[], false, rfl, hbad fun h => by have := h.1; omega⟩, hS.ext⟩
         conv=>whnf
         refine hS.ld 0 rfl rfl ?_
         conv=>whnf
         refine ixO ?_
         conv=>whnf
         refine hS.ldr (hcn.one 0 rfl) id ?_
         conv=>whnf
         refine brD (fun h8 => ?_) (fun h8 => ?_)
         · repeat' ((conv => whnf); first | refine RetC.mk ?_ | refine nzO ?_ | refine rgO ?_ | refine ixO ?_ | (first|apply brD|apply brND|apply brN|apply brI) <;> (intro))
           exact ⟨⟨[], false, rfl, hbad fun h => by (have := h.2.1; omega)⟩, hS.ext⟩
         conv=>whnf
         refine addS (b := [32]) (by simp; omega) ?_
         conv=>whnf
         refine hS.ld 0 rfl rfl ?_
         conv=>whnf
         refine ixO ?_
         conv=>whnf
         refine hS.ldr (hcn.one 0 rfl) id ?_
         conv=>whnf
         refine (decimalZ_ok n hgn _).mono ?_
         rintro v w5 ⟨rfl, hx5⟩
         replace hS := hS.no hx5
         conv=>whnf
         refine addS (by simp; omega) ?_
         rw [show word ++ numsT (ns.take k) ++ [32] ++ Lib.itoa n = word ++ numsT (ns.take (k + 1)) by rw [numsT_step hnk]; simp]
         conv=>whnf
         refine rgO ?_
         conv=>whnf
         refine LoopE.mk ⟨_, [(7, .int .i64 ((k + 1 : Nat) : Int)), (6, _), (4, _), (1, _)], ?_, ⟨rfl, rfl, rfl, rfl, trivial⟩, ⟨k + 1, rfl, rfl, by omega, ?_, hS⟩⟩
         · omega
         · intro i c' n' hi hc' hn'
           by_cases e : i = k
           · subst e
             rw [hck] at hc'
             rw [hnk] at hn'
             cases hc'
             cases hn'
             exact hgood h7 h8
           · exact hfit i c' n' (by omega) hc' hn'
     · obtain rfl : k = rn := by omega
       have htk : ns.take k = ns := List.take_of_length_le (by omega)
       rw [htk] at *
       repeat' ((conv => whnf); first | refine RetC.mk ?_ | refine nzO ?_ | refine rgO ?_ | refine ixO ?_ | (first|apply brD|apply brND|apply brN|apply brI) <;> (intro))
       refine ⟨⟨word ++ numsT ns, true, rfl, lineS_of ⟨fun _ => ⟨f, hfw, .inr ⟨h1, by dsimp only; omega, fun i c n hc hn => hfit i c n (by have := (List.getElem?_eq_some_iff.1 hn).1; dsimp only at this; omega) hc hn⟩⟩, fun _ => rfl⟩ fun _ => ?_⟩, hS.ext⟩
       unfold lineT
       rw [if_neg (fun h => h1 (by rw [hfw] at h; exact Option.some.inj h))]
end
end Go.Proofs.YtogjajjdaoihdaaGreatDoor

namespace Go.Proofs.YtogjajjdaoihdaaGreatDoor
set_option maxRecDepth 20000
open Go Ev
noncomputable def linesS (l : List LineV) : List (List UInt8) := l.filterMap lineS
theorem linesS_step {l : List LineV} {k : Nat} {x : LineV} (h : l[k]? = some x) : linesS (l.take (k + 1)) = linesS (l.take k) ++ (lineS x).toList := by
 unfold linesS
 rw [List.take_add_one, h, List.filterMap_append]
 show _ ++ List.filterMap lineS [x] = _
 cases hx : lineS x <;> simp [hx]
theorem linesS_len (l : List LineV) : (linesS l).length ≤ l.length := List.length_filterMap_le _ _
theorem linesS_cut (l : List LineV) (k : Nat) : (linesS l).take (linesS (l.take k)).length = linesS (l.take k) := by
 conv => lhs; arg 2; rw [← List.take_append_drop k l]
 unfold linesS
 rw [List.filterMap_append, List.take_left]
theorem runS_cut (a b : List (List UInt8)) (W : WorldS) : (runS (a ++ b) W).1.take a.length = (runS a W).1 := by
 rw [runS_app]
 conv => lhs; arg 1; rw [← runS_len a W]
 exact List.take_left
theorem runS_take1 (l : List (List UInt8)) (k : Nat) (hk : k ≤ l.length) (W : WorldS) : (runS l W).1.take k = (runS (l.take k) W).1 := by
 have h := runS_cut (l.take k) (l.drop k) W
 rw [List.take_append_drop, List.length_take, Nat.min_eq_left hk] at h
 exact h
theorem lines_cost {x : LineV} {s : List UInt8} (h : lineS x = some s) (l : List (List UInt8)) : costS (l ++ [s]) = costS l + (34 * ticksOf s + 1) := by
 unfold costS
 rw [List.map_append, List.sum_append]
 simp
theorem lineB_len {x : LineV} {s : List UInt8} (h : lineS x = some s) (h60 : x.word.length ≤ 60) (hns : x.ns.length ≤ 5) (hI : ∀ n ∈ x.ns, I64 n) (hp : x.p.IP) : s.length ≤ 500 := by
 rcases line_kind h with hw | ⟨d, hw, hd, hi, ho⟩
 · obtain ⟨rfl, _⟩ := line_pkt h hw
   have := text_len hp
   rw [List.length_append, List.length_cons]
   omega
 · obtain ⟨rfl, _⟩ := line_cmd h hw hd hi ho
   have := numsT_len hI
   have h2 : x.ns.length * 22 ≤ 5 * 22 := Nat.mul_le_mul_right _ hns
   rw [List.length_append]
   omega
section
variable {E : Nat → Addr} {w : World}
set_option maxHeartbeats 4000000 in
theorem scriptAgain_ok (W : World) (B : Base E W) {ar : Option Addr} {nr cr : Nat} {rules : List RuleS} (hr : Slc W 5 encRule RuleS.I ar nr rules) {a : Option Addr} {n c : Nat} {l : List LineV} (hx : Slc W 8 encLV (LineV.Ok W) a n l) (cut : Int) :
   CallC Tryz.prog 4 #[.slice ar nr cr, .slice a n c, .int .i64 cut] W fun v w' => v = .bool true ∧ Ext No W w' := by
 have hl := hx.len
 have hlr := hr.len
 refine fn_intro tabOk Tryz.func4 (by kernel_rfl) rfl Tryz.ntmps4 (lbO rfl) ?_
 have hS := St.start W No
 conv=>whnf
 refine (hello_ok B (Ext.refl _ _)).mono ?_
 rintro v w1 ⟨rfl, hx1⟩
 replace hS := hS.no hx1
 conv=>whnf
 refine brD (fun h1 => ?_) (fun h1 => ?_)
 · repeat' ((conv => whnf); first | refine RetC.mk ?_ | refine nzO ?_ | refine rgO ?_ | refine ixO ?_ | (first|apply brD|apply brND|apply brN|apply brI) <;> (intro))
   exact ⟨rfl, hS.ext⟩
 conv=>whnf
 refine brD (fun h2 => ?_) (fun h2 => ?_)
 · repeat' ((conv => whnf); first | refine RetC.mk ?_ | refine nzO ?_ | refine rgO ?_ | refine ixO ?_ | (first|apply brD|apply brND|apply brN|apply brI) <;> (intro))
   exact ⟨rfl, hS.ext⟩
 conv=>whnf
 refine brD (fun h3 => ?_) (fun h3 => ?_)
 · repeat' ((conv => whnf); first | refine RetC.mk ?_ | refine nzO ?_ | refine rgO ?_ | refine ixO ?_ | (first|apply brD|apply brND|apply brN|apply brI) <;> (intro))
   exact ⟨rfl, hS.ext⟩
 conv=>whnf
 refine brD (fun h4 => ?_) (fun h4 => ?_)
 · repeat' ((conv => whnf); first | refine RetC.mk ?_ | refine nzO ?_ | refine rgO ?_ | refine ixO ?_ | (first|apply brD|apply brND|apply brN|apply brI) <;> (intro))
   exact ⟨rfl, hS.ext⟩
 conv=>whnf
 refine (rulesFault_ok (hr.no hS.ext)).mono ?_
 rintro v w2 ⟨rfl, hx2⟩
 replace hS := hS.no hx2
 conv=>whnf
 refine brD (fun h5 => ?_) (fun h5 => ?_)
 · repeat' ((conv => whnf); first | refine RetC.mk ?_ | refine nzO ?_ | refine rgO ?_ | refine ixO ?_ | (first|apply brD|apply brND|apply brN|apply brI) <;> (intro))
   exact ⟨rfl, hS.ext⟩
 have hg0 : (faultL rules).1 = 0 := by omega
 have hgr := fault_good.1 hg0
 obtain ⟨cu, rfl⟩ : ∃ k : Nat, cut = k := ⟨cut.toNat, by omega⟩
 have hS := hS.addNil 9 1 encT
 conv=>whnf
 refine loopR tabOk (fun σ w' q => ∃ (k tk : Nat) (a' : Option Addr) (c' : Nat), σ = [(11, .int .i64 (k : Int)), (10, .int .i64 (tk : Int)), (9, .int .i64 ((linesS (l.take (min k cu))).length : Nat)), (8, .slice a' (linesS (l.take k)).length c'), (2, .int .i64 (cu : Int)), (1, .slice a n c), (0, .slice ar nr cr)] ∧ q = n - k ∧ k ≤ n ∧ tk ≤ 1500 ∧ costS (linesS (l.take k)) ≤ 34 * tk + k ∧ (∀ t ∈ linesS (l.take k), t.length ≤ 500) ∧ St W No w' [ownL 9 1 encT (.slice a' (linesS (l.take k)).length c') (linesS (l.take k))])
   (σ' := [(11, .int .i64 ((0 : Nat) : Int)), (10, .int .i64 ((0 : Nat) : Int)), (9, .int .i64 ((linesS (l.take (min 0 cu))).length : Nat)), (8, .slice none 0 0), (2, .int .i64 (cu : Int)), (1, .slice a n c), (0, .slice ar nr cr)]) (n := n) ⟨rfl, rfl, by rw [Nat.zero_min]; rfl, rfl, rfl, rfl, rfl, trivial⟩ ⟨0, 0, none, 0, rfl, rfl, Nat.zero_le _, Nat.zero_le _, Nat.zero_le _, (fun t ht => by cases ht), hS⟩ ?_
 clear hS
 rintro _ w3 q ⟨k, tk, a', c', rfl, rfl, hk, htk, hcost, hlen, hS⟩
 conv=>whnf
 refine brD (fun h6 => ?_) (fun h6 => ?_)
 · obtain ⟨b0, o0, x, hat, hok, rfl, hb0, hc⟩ := hx.at (k := k) (by omega)
   obtain ⟨word, ra, rn, rc, ns, p⟩ := x
   obtain ⟨hnsl, hpI⟩ := hok
   dsimp only at hnsl hpI
   have hwz := bs_size word
   have hnl := hnsl.len
   have hst := linesS_step hat
   have hll := linesS_len (l.take k)
   rw [List.length_take] at hll
   have hlk : k < l.length := by omega
   conv=>whnf
   refine ixO ?_
   conv=>whnf
   refine hS.ldr (hc.one 1 (v := .slice ra rn rc) rfl) id ?_
   conv=>whnf
   refine brD (fun h7 => ?_) (fun h7 => ?_)
   · repeat' ((conv => whnf); first | refine RetC.mk ?_ | refine nzO ?_ | refine rgO ?_ | refine ixO ?_ | (first|apply brD|apply brND|apply brN|apply brI) <;> (intro))
     exact ⟨rfl, hS.ext⟩
   conv=>whnf
   refine ixO ?_
   conv=>whnf
   refine hS.ldr (hc.one 0 (v := .string (bs word)) rfl) id ?_
   conv=>whnf
   refine brD (fun h8 => ?_) (fun h8 => ?_)
   · repeat' ((conv => whnf); first | refine RetC.mk ?_ | refine nzO ?_ | refine rgO ?_ | refine ixO ?_ | (first|apply brD|apply brND|apply brN|apply brI) <;> (intro))
     exact ⟨rfl, hS.ext⟩
   have h60 : word.length ≤ 60 := by omega
   have h5n : rn ≤ 5 := by omega
   conv=>whnf
   refine ixO ?_
   conv=>whnf
   refine hS.lar (l := encLV ⟨word, ra, rn, rc, ns, p⟩) rfl hc id ?_
   conv=>whnf
   refine (lineOf_ok ⟨word, ra, rn, rc, ns, p⟩ (hnsl.no hS.ext) hpI h60 h5n).mono ?_
   rintro v w4 ⟨⟨s, kb, rfl, hline⟩, hx4⟩
   replace hS := hS.no hx4
   cases kb with
   | false =>
     rw [if_neg (by decide)] at hline
     rw [hline, Option.toList_none, List.append_nil] at hst
     have hmin : (linesS (l.take (min (k + 1) cu))).length = (linesS (l.take (min k cu))).length := by
       by_cases hkc : k < cu
       · rw [show min (k + 1) cu = k + 1 by omega, show min k cu = k by omega, hst]
       · rw [show min (k + 1) cu = min k cu by omega]
     conv=>whnf
     refine rgO ?_
     conv=>whnf
     refine LoopE.mk ⟨_, [(11, .int .i64 ((k + 1 : Nat) : Int)), (10, .int .i64 (tk : Int)), (9, .int .i64 ((linesS (l.take (min (k + 1) cu))).length : Nat)), (8, .slice a' (linesS (l.take (k + 1))).length c'), (2, _), (1, _), (0, _)], ?_, ⟨rfl, rfl, by rw [hmin]; rfl, by rw [hst]; rfl, rfl, rfl, rfl, trivial⟩, ⟨k + 1, tk, a', c', rfl, rfl, by omega, htk, by rw [hst]; omega, by rw [hst]; exact hlen, by rw [hst]; exact hS⟩⟩
     omega
   | true =>
     rw [if_pos rfl] at hline
     rw [hline] at hst
     replace hst : linesS (l.take (k + 1)) = linesS (l.take k) ++ [s] := hst
     have hs500 : s.length ≤ 500 := lineB_len hline h60 (by dsimp only; omega) (fun n hn => hnsl.good n hn) hpI
     obtain ⟨ht0, ht1⟩ := line_ticks hline
     dsimp only at ht0 ht1
     conv=>whnf
     refine ixO ?_
     conv=>whnf
     refine hS.ldr (hc.one 0 (v := .string (bs word)) rfl) id ?_
     conv=>whnf
     refine eqS2 (b := tickW) ?_
     conv=>whnf
     refine brD (fun h9 => ?_) (fun h9 => ?_)
     · obtain ⟨ta, tb, hnse, _, htb, htc⟩ := ht1 h9
       obtain ⟨bn, on, nv, hnk, hgn, rfl, _, hcn⟩ := hnsl.at (k := 1) (by rw [← hnl, hnse]; exact Nat.lt_succ_self 1)
       have hrn2 : rn = 2 := by rw [← hnl, hnse]; rfl
       obtain rfl : nv = (tb : Int) := by
         rw [hnse] at hnk
         exact (Option.some.inj hnk).symm
       conv=>whnf
       refine ixO ?_
       conv=>whnf
       refine hS.ldr (hc.one 1 (v := .slice (some ⟨bn, on, none⟩) rn rc) rfl) id ?_
       conv=>whnf
       refine ixO ?_
       conv=>whnf
       refine hS.ldr (hcn.one 0 rfl) id ?_
       conv=>whnf
       refine rgO ?_
       conv=>whnf
       refine brD (fun h10 => ?_) (fun h10 => ?_)
       · repeat' ((conv => whnf); first | refine RetC.mk ?_ | refine nzO ?_ | refine rgO ?_ | refine ixO ?_ | (first|apply brD|apply brND|apply brN|apply brI) <;> (intro))
         exact ⟨rfl, hS.ext⟩
       conv=>whnf
       refine hS.lit Tryz.underlying22 (sz := 1) (by kernel_rfl) (z := .string (bs [])) (by kernel_rfl) rfl rfl (cs := encT s) (by rfl) (fun b9 w6 hb9 hS => ?_)
       conv=>whnf
       refine hS.appS codT 0 (ys := [s]) (G := fun _ => True) Tryz.underlying22 (bytes := 16) (by kernel_rfl) (z := .string (bs [])) (by kernel_rfl) rfl rfl (Slc.of_blk codT (hS.blk 1 rfl) rfl (by simp) (fun _ _ => trivial) rfl) (by unfold maxLen; omega) (by omega) (fun a2 c2 w7 hS => ?_)
       replace hS := hS.keep 1
       have hll2 : (linesS (l.take k)).length + 1 = (linesS (l.take (k + 1))).length := by rw [hst, List.length_append]; rfl
       rw [hll2] at hS ⊢
       replace hS : St W No w7 [ownL 9 1 encT (.slice a2 (linesS (l.take (k + 1))).length c2) (linesS (l.take (k + 1)))] := by
         have h := hS
         rw [← hst]  at h
         exact h
       have hcost2 : costS (linesS (l.take (k + 1))) ≤ 34 * (tk + tb) + (k + 1) := by
         rw [hst, lines_cost hline]
         (rw [htc]; omega)
       have hlen2 : ∀ t ∈ linesS (l.take (k + 1)), t.length ≤ 500 := by
         rw [hst]
         intro t ht
         rcases List.mem_append.1 ht with ht | ht
         · exact hlen t ht
         · obtain rfl := List.mem_singleton.1 ht
           exact hs500
       conv=>whnf
       refine brD (fun hkc => ?_) (fun hkc => ?_)
       · have hmin : min (k + 1) cu = k + 1 := by omega
         conv=>whnf
         refine rgO ?_
         conv=>whnf
         refine LoopE.mk ⟨_, [(11, .int .i64 ((k + 1 : Nat) : Int)), (10, .int .i64 ((tk + tb : Nat) : Int)), (9, .int .i64 ((linesS (l.take (min (k + 1) cu))).length : Nat)), (8, _), (2, _), (1, _), (0, _)], ?_, ⟨rfl, rfl, by rw [hmin]; rfl, rfl, rfl, rfl, rfl, trivial⟩, ⟨k + 1, tk + tb, a2, c2, rfl, rfl, by omega, by omega, hcost2, hlen2, hS⟩⟩
         omega
       · have hmin : min (k + 1) cu = min k cu := by omega
         conv=>whnf
         refine rgO ?_
         conv=>whnf
         refine LoopE.mk ⟨_, [(11, .int .i64 ((k + 1 : Nat) : Int)), (10, .int .i64 ((tk + tb : Nat) : Int)), (9, .int .i64 ((linesS (l.take (min (k + 1) cu))).length : Nat)), (8, _), (2, _), (1, _), (0, _)], ?_, ⟨rfl, rfl, by rw [hmin]; rfl, rfl, rfl, rfl, rfl, trivial⟩, ⟨k + 1, tk + tb, a2, c2, rfl, rfl, by omega, by omega, hcost2, hlen2, hS⟩⟩
         omega
     · have htc := ht0 h9
       conv=>whnf
       refine hS.lit Tryz.underlying22 (sz := 1) (by kernel_rfl) (z := .string (bs [])) (by kernel_rfl) rfl rfl (cs := encT s) (by rfl) (fun b9 w6 hb9 hS => ?_)
       conv=>whnf
       refine hS.appS codT 0 (ys := [s]) (G := fun _ => True) Tryz.underlying22 (bytes := 16) (by kernel_rfl) (z := .string (bs [])) (by kernel_rfl) rfl rfl (Slc.of_blk codT (hS.blk 1 rfl) rfl (by simp) (fun _ _ => trivial) rfl) (by unfold maxLen; omega) (by omega) (fun a2 c2 w7 hS => ?_)
       replace hS := hS.keep 1
       have hll2 : (linesS (l.take k)).length + 1 = (linesS (l.take (k + 1))).length := by rw [hst, List.length_append]; rfl
       rw [hll2] at hS ⊢
       replace hS : St W No w7 [ownL 9 1 encT (.slice a2 (linesS (l.take (k + 1))).length c2) (linesS (l.take (k + 1)))] := by
         have h := hS
         rw [← hst]  at h
         exact h
       have hcost2 : costS (linesS (l.take (k + 1))) ≤ 34 * (tk) + (k + 1) := by
         rw [hst, lines_cost hline]
         (rw [htc]; omega)
       have hlen2 : ∀ t ∈ linesS (l.take (k + 1)), t.length ≤ 500 := by
         rw [hst]
         intro t ht
         rcases List.mem_append.1 ht with ht | ht
         · exact hlen t ht
         · obtain rfl := List.mem_singleton.1 ht
           exact hs500
       conv=>whnf
       refine brD (fun hkc => ?_) (fun hkc => ?_)
       · have hmin : min (k + 1) cu = k + 1 := by omega
         conv=>whnf
         refine rgO ?_
         conv=>whnf
         refine LoopE.mk ⟨_, [(11, .int .i64 ((k + 1 : Nat) : Int)), (10, .int .i64 ((tk : Nat) : Int)), (9, .int .i64 ((linesS (l.take (min (k + 1) cu))).length : Nat)), (8, _), (2, _), (1, _), (0, _)], ?_, ⟨rfl, rfl, by rw [hmin]; rfl, rfl, rfl, rfl, rfl, trivial⟩, ⟨k + 1, tk, a2, c2, rfl, rfl, by omega, by omega, hcost2, hlen2, hS⟩⟩
         omega
       · have hmin : min (k + 1) cu = min k cu := by omega
         conv=>whnf
         refine rgO ?_
         conv=>whnf
         refine LoopE.mk ⟨_, [(11, .int .i64 ((k + 1 : Nat) : Int)), (10, .int .i64 ((tk : Nat) : Int)), (9, .int .i64 ((linesS (l.take (min (k + 1) cu))).length : Nat)), (8, _), (2, _), (1, _), (0, _)], ?_, ⟨rfl, rfl, by rw [hmin]; rfl, rfl, rfl, rfl, rfl, trivial⟩, ⟨k + 1, tk, a2, c2, rfl, rfl, by omega, by omega, hcost2, hlen2, hS⟩⟩
         omega
 obtain rfl : k = n := by omega
 have hmin : min k cu = cu := by omega
 rw [hmin]
 have htk2 : l.take k = l := List.take_of_length_le (by omega)
 rw [htk2] at hS hcost hlen ⊢
 have hll := linesS_len l
 have hcutS := linesS_cut l cu
 have hcl : (linesS (l.take cu)).length ≤ (linesS l).length := by
   have := congrArg List.length hcutS
   rw [List.length_take] at this
   omega
 generalize linesS l = LS at hS hcost hlen hll hcutS hcl ⊢
 generalize linesS (l.take cu) = LC at hcutS hcl ⊢
 have htxt : (linesB rules).length ≤ 100000 := by
   have h1 := lines_len (l := rules) fun r hr => (numR_of (hgr.2 r hr)).1
   have h2 := hgr.1
   omega
 have hsc : ∀ ls : List (List UInt8), ls.length ≤ 40 → scriptS (linesB rules) ls = ((0, -1), (runS ls (.born rules)).1) := fun ls h => by
   unfold scriptS
   rw [if_neg (by omega), rulesOfS_lines hgr, if_neg (fun h => h rfl)]
 generalize hbr : WorldS.born rules = Wb at hsc
 conv=>whnf
 refine (rulesText_ok (hr.no hS.ext) hgr).mono ?_
 rintro v w4 ⟨rfl, hx4⟩
 replace hS := (hS.no hx4).addNil 9 1 encT
 conv=>whnf
 refine hS.appS codT 1 (xs := []) (G := fun t => t.length ≤ 500) Tryz.underlying22 (bytes := 16) (by kernel_rfl) (z := .string (bs [])) (by kernel_rfl) rfl rfl (ownL_slc codT (hS.get 0 rfl) hlen) (by unfold maxLen; simp; omega) (by simp; omega) (fun a2 c2 w5 hS => ?_)
 rw [show ([] : List (List UInt8)).length + LS.length = LS.length by simp] at hS ⊢
 replace hS := hS.as (H' := [ownL 9 1 encT (.slice a' LS.length c') LS, ownL 9 1 encT (.slice a2 LS.length c2) LS]) rfl
 have hown : Slc w5 1 encT (fun t => t.length ≤ 100000) a2 LS.length LS := ownL_slc codT (hS.get 1 rfl) (fun t ht => by have := hlen t ht; omega)
 conv=>whnf
 refine (srun_ok B hS.ext (linesB rules) htxt hown (by omega)).mono ?_
 rw [hsc LS (by omega)]
 rintro v w6 ⟨⟨a3, c3, e, rfl, hf, ho, hfr⟩, hx6⟩
 obtain rfl : e = .nilIface := by
   rcases hf with ⟨_, h⟩ | ⟨_, h, _⟩
   · exact h
   · exact absurd h (Nat.lt_irrefl 0)
 dsimp only at ho hfr ⊢
 rw [runS_len] at ho hfr ⊢
 replace hS := hS.made hx6 ownL_local ho (Fresh.foot hfr)
 clear ho hfr hf hx6 hown
 have hcap := ownT_cap (hS.get 0 rfl)
 have hcap3 := ownT_cap (hS.get 2 rfl)
 have hz1 : Slc w6 1 encT (fun t => t.length ≤ 500) a' LS.length LS := ownL_slc codT (hS.get 0 rfl) hlen
 conv=>whnf
 (refine drawS tabOk mixed [] (No) [0, 2, 3, 4, 1, 5, 6, 7, 8, 9, 10] (by kernel_rfl) ?_; rintro w1 rfl; replace hS := hS.drew)
 conv=>whnf
 refine slcHead (hz1.no (Ext.drawn No w6 (w6.drawn + 1))) hcap Tryz.underlying22 (by kernel_rfl) rfl hcl (fun a5 c5 hz5 => ?_)
 rw [hcutS] at hz5
 conv=>whnf
 refine (rulesText_ok (hr.no hS.ext) hgr).mono ?_
 rintro v w7 ⟨rfl, hx7⟩
 replace hS := hS.no hx7
 replace hz5 := hz5.no hx7
 refine KeepC.mk hx7 ?_
 conv=>whnf
 have hcostC : costS LC ≤ 40000000 := by
   have h1 := costS_le LS LC.length
   rw [hcutS] at h1
   omega
 refine (srun_ok B hS.ext (linesB rules) htxt (Slc.mono hz5 fun t ht => by omega) hcostC).mono ?_
 rw [hsc LC (by omega)]
 rintro v w8 ⟨⟨a6, c6, e, rfl, hf, ho, hfr⟩, hx8⟩
 obtain rfl : e = .nilIface := by
   rcases hf with ⟨_, h⟩ | ⟨_, h, _⟩
   · exact h
   · exact absurd h (Nat.lt_irrefl 0)
 dsimp only at ho hfr ⊢
 rw [runS_len] at ho hfr ⊢
 refine KeepC.mk (hx7.trans hx8) ?_
 replace hS := hS.no hx8
 have hz6 := ownL_slc (G := fun _ => True) codT ho (fun _ _ => trivial)
 have hz3 := ownL_slc (G := fun _ => True) codT (hS.get 2 rfl) (fun _ _ => trivial)
 have hrt := runS_take1 LS LC.length hcl Wb
 rw [hcutS] at hrt
 conv=>whnf
 rw [show ((LS.length : Int) == (LS.length : Int)) = true from beq_self_eq_true _]
 conv=>whnf
 rw [show ((LC.length : Int) == (LC.length : Int)) = true from beq_self_eq_true _]
 conv=>whnf
 refine slcHead hz3 hcap3 Tryz.underlying22 (by kernel_rfl) rfl hcl (fun a9 c9 hz9 => ?_)
 rw [hrt] at hz9
 conv=>whnf
 refine (sameTexts_ok hz9 hz6).mono ?_
 rintro v w9 ⟨rfl, hx9⟩
 replace hS := hS.no hx9
 repeat' ((conv => whnf); first | refine RetC.mk ?_ | refine nzO ?_ | refine rgO ?_ | refine ixO ?_ | (first|apply brD|apply brND|apply brN|apply brI) <;> (intro))
 exact ⟨by simp, hS.ext⟩
theorem scriptAgain_walk {E : Nat → Addr} (W : World) (args : List Value) (hE : Errs W E W.heap.size allErrs) (hh : Handle W) (ht : Pow10 W) (hP : Protos W) (hM : MaxL W) (hV : NumV W) (hN : NamesV W) (hT : ∀ k, 1 ≤ k → k < 12 → W.cell? ⟨(E k).block, (E k).off, (E k).spot⟩ = some (.string (bs (errT k)))) (ha : ArgsOk Tryz.prog W [28, 45, 3] args) :
   CallC Tryz.prog 4 args.toArray W fun v w' => v = .bool true ∧ Ext No W w' := by
 obtain ⟨v0, args, rfl, h0, ha⟩ := ha.cons
 obtain ⟨v1, args, rfl, h1, ha⟩ := ha.cons
 obtain ⟨v2, args, rfl, h2, ha⟩ := ha.cons
 obtain rfl := ha.nil
 obtain ⟨a0, n0, c0, rules, rfl, hr, _⟩ := arg_slice (d := 10) (sz := 5) Tryz.underlying28 (by kernel_rfl) (by decide) (dec_rule (Nat.le_refl _)) h0
 obtain ⟨a1, n1, c1, l, rfl, hx, _⟩ := arg_slice (d := 12) (sz := 8) Tryz.underlying45 (by kernel_rfl) (by decide) (dec_line (c := 10) (d := 11) (Nat.le_refl _) rfl rfl) h1
 obtain ⟨cut, rfl, _⟩ := arg_int Tryz.underlying3 h2
 exact scriptAgain_ok W ⟨hE, hh, ht, hP, hM, hV, hN, hT⟩ hr hx cut
end
end Go.Proofs.YtogjajjdaoihdaaGreatDoor
