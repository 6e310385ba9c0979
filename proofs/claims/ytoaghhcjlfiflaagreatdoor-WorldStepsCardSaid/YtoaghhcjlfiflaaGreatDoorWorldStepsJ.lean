/-
  Texts of this claim, joined: LawW, RWorldC, RWorldD, RWorldE, RWorldF, RPlay, RPlayB, RPlayC, NodeM, AsW, Both, StepW, StepR, WorldSteps.
-/
import Derived.Test.YtoaghhcjlfiflaaGreatDoorWorldStepsI

namespace Go.Proofs.YtoaghhcjlfiflaaGreatDoor
open Go Ev
theorem Ev.Slc.imp {α : Type} {w : World} {sz n : Nat} {enc : α → List Value} {G G' : α → Prop} {a : Option Addr} {xs : List α} (h : Slc w sz enc G a n xs) (hg : ∀ x, G x → G' x) : Slc w sz enc G' a n xs := ⟨h.len, h.max, h.cells, fun x hx => hg x (h.good x hx)⟩
theorem Ev.St.madeAll {w0 w w' : World} {S : Nat → Prop} {H L : List Ent} (h : St w0 S w H) (hx : Ext No w w') (hL : Has w' L) (hf : ∀ b, inF L b → w.heap.size ≤ b) : St w0 S w' (H ++ L) := by
  have h1 := h.no hx
  refine ⟨h1.ext, ?_, ?_, ?_, ?_⟩
  · intro e he
    rcases List.mem_append.1 he with he | he
    · exact h1.each e he
    · exact hL.each e he
  · intro e he
    rcases List.mem_append.1 he with he | he
    · exact h1.loc e he
    · exact hL.loc e he
  · intro e he b hb
    rcases List.mem_append.1 he with he | he
    · exact h1.may e he b hb
    · exact ⟨.inr (Nat.le_trans h.ext.size (hf b ⟨e, he, hb⟩)), hL.lt e he b hb⟩
  · refine List.pairwise_append.2 ⟨h1.apart, hL.apart, fun e he f hf' b hb hb' => ?_⟩
    have h2 := (h.may e he b hb).2
    have h3 := hf b ⟨f, hf', hb'⟩
    omega
theorem Ev.St.frontOut {w0 w : World} {S : Nat → Prop} {e : Ent} {H : List Ent} (h : St w0 S w (e :: H)) {b : Nat} (hb : b ∈ e.foot) : ¬ inF H b := by
  rintro ⟨f, hf, hbf⟩
  exact (List.pairwise_cons.1 h.apart).1 f hf b hb hbf
theorem Ev.St.rowOut {w0 w : World} {S : Nat → Prop} {e : Ent} {P L R : List Ent} (h : St w0 S w ((e :: P) ++ (L ++ R))) {b : Nat} (hb : b ∈ e.foot) : ¬ inF L b := fun hl => h.frontOut hb (inF_app.2 (.inr (inF_app.2 (.inl hl))))
theorem Ev.St.new_high {w0 w : World} {H : List Ent} (h : St w0 No w H) {b : Nat} (hb : inF H b) : w0.heap.size ≤ b := by
  obtain ⟨e, he, hb⟩ := hb
  exact (h.may e he b hb).1.elim (fun h => h.elim) id
section
variable {w w' : World}
theorem backEvents_ok {G : Int × Int → Prop} {a : Option Addr} {n c : Nat} {xs : List (Int × Int)} (hx : Slc w 2 encEv G a n xs) (hn : n ≤ 2000) :
    CallC Tryz.prog 39 #[.slice a n c] w fun v w' => ∃ a' c', v = .slice a' n c' ∧ Ext No w w' ∧ (ownL 135 2 encEv v xs).holds w' ∧ Fresh w w' v := by
  have hl := hx.len
  refine fn_intro tabOk Tryz.func39 (by kernel_rfl) rfl Tryz.ntmps39 (Nat.le_of_ble_eq_true rfl) ?_
  have hS := (St.start w No).addNil 135 2 encEv
  (conv => whnf)
  refine loopR tabOk (fun σ w' q => ∃ (k : Nat) (a' : Option Addr) (c' : Nat), σ = [(4, .int .i64 k), (3, .slice a' k c'), (0, .slice a n c)] ∧ q = n - k ∧ k ≤ n ∧ St w No w' [ownL 135 2 encEv (.slice a' k c') (xs.take k)])
    (σ' := [(4, .int .i64 ((0 : Nat) : Int)), (3, .slice none 0 0), (0, .slice a n c)]) (n := n) ⟨rfl, rfl, rfl, trivial⟩ ⟨0, none, 0, rfl, rfl, Nat.zero_le _, hS⟩ ?_
  clear hS
  rintro _ w1 q ⟨k, a', c', rfl, rfl, hk, hS⟩
  (conv => whnf)
  refine brD (fun h3 => ?_) (fun h3 => ?_)
  · obtain ⟨b0, o0, x, hxk, _, rfl, hb0, hc⟩ := hx.at (k := k) (by omega)
    have hT : ¬ w.heap.size ≤ b0 := Nat.not_le.2 hb0
    have hlk : (xs.take k).length = k := by rw [List.length_take]; omega
    have hst : xs.take (k + 1) = xs.take k ++ [x] := by rw [List.take_add_one, hxk]; rfl
    (conv => whnf)
    (refine drawS tabOk mixed [] (fun b => w.heap.size ≤ b) [0, 1, 2, 3, 4, 5, 6, 7, 8, 9, 10, 11, 12, 13, 14] (by kernel_rfl) ?_; rintro w1 rfl; replace hS := hS.drew)
    have hK := hS.ref (fun b => w.heap.size ≤ b)
    repeat' ((conv => whnf); first | refine IdxC.mk (by omega) (by omega) ?_ | refine hS.ldrF (hc.one 0 rfl) id hT ?_ | refine hS.ldrF (hc.one 1 rfl) id hT ?_)
    refine hS.litX Tryz.underlying84 (sz := 2) (by kernel_rfl) (z := .agg (encEv (0, 0)).toArray) (by kernel_rfl) rfl rfl (cs := encEv x) (by rfl) (fun b9 w3 hb9 hx3 hS => ?_)
    replace hK := hK.trans hx3.of_no
    refine KeepC.mk hK ?_
    clear hx3
    have hfr := hS.freshAt 0 rfl
    (conv => whnf)
    refine hS.appX codEv 0 (ys := [x]) (G := fun _ => True) Tryz.underlying84 (bytes := 16) (by kernel_rfl) (z := .agg (encEv (0, 0)).toArray) (by kernel_rfl) rfl rfl (Slc.of_blk codEv (hS.blk 1 rfl) rfl (by simp) (fun _ _ => trivial) rfl) (by rw [hlk]; unfold maxLen; omega) (by rw [hlk]; omega) (fun a2 c2 w4 hx4 hS => ?_)
    replace hK := hK.trans (hx4.mono fun q h => (hfr q h).1)
    refine KeepC.mk hK ?_
    clear hx4 hK hfr
    rw [hlk] at hS ⊢
    replace hS := hS.keep 1
    replace hS : St w No w4 [ownL 135 2 encEv (.slice a2 (k + 1) c2) (xs.take (k + 1))] := by rw [hst]; exact hS
    (conv => whnf)
    refine RngC.mk (by omega) (by omega) ?_
    (conv => whnf)
    refine LoopE.mk ⟨_, [(4, .int .i64 ((k + 1 : Nat) : Int)), (3, _), (0, _)], ?_, ⟨rfl, rfl, rfl, trivial⟩, ⟨k + 1, a2, c2, rfl, rfl, by omega, hS⟩⟩
    omega
  · obtain rfl : k = n := by omega
    rw [List.take_of_length_le (by omega)] at hS
    repeat' ((conv => whnf); first | refine RetC.mk ?_ | refine NzC.mk (by decide) ?_ | refine RngC.mk (by omega) (by omega) ?_ | refine IdxC.mk (by omega) (by omega) ?_ | refine brD (fun _ => ?_) (fun _ => ?_) | refine brND (fun _ => ?_) (fun _ => ?_) | refine brN (fun _ => ?_) (fun _ => ?_) | refine brI (fun _ => ?_) (fun _ => ?_))
    exact ⟨a', c', rfl, hS.ext, hS.get 0 rfl, hS.freshAt 0 rfl⟩
theorem neEv {x : Int × Int} {k : Value → Prop} (hk : k (.bool false)) :
    PureC Tryz.prog (do eqGuard .neq 135 (.tmp 0) (.tmp 0) (.agg (encEv x).toArray) (.agg (encEv x).toArray); Go.binOp .neq 135 (.agg (encEv x).toArray) (.agg (encEv x).toArray)) k :=
  neS (a := [.int x.1, .int x.2]) (b := [.int x.1, .int x.2]) (ks := [.int, .int]) (by kernel_rfl) (by kernel_rfl) (by kernel_rfl) rfl rfl (by simpa using hk)
theorem sameEvents_ok {G G' : Int × Int → Prop} {a b : Option Addr} {n c d : Nat} {xs : List (Int × Int)} (hx : Slc w 2 encEv G a n xs) (hy : Slc w 2 encEv G' b n xs) :
    CallC Tryz.prog 38 #[.slice a n c, .slice b n d] w fun v w' => v = .bool true ∧ Ext No w w' := by
  have hmax := hx.max
  refine fn_intro tabOk Tryz.func38 (by kernel_rfl) rfl Tryz.ntmps38 (Nat.le_of_ble_eq_true rfl) ?_
  have hS := St.start w No
  (conv => whnf)
  refine brND (fun h => absurd rfl h) (fun _ => ?_)
  (conv => whnf)
  refine loopR tabOk (fun σ w' q => ∃ k : Nat, σ = [(5, .int .i64 k), (1, .slice b n d), (0, .slice a n c)] ∧ q = n - k ∧ k ≤ n ∧ St w No w' [])
    (σ' := [(5, .int .i64 ((0 : Nat) : Int)), (1, .slice b n d), (0, .slice a n c)]) (n := n) ⟨rfl, rfl, rfl, trivial⟩ ⟨0, rfl, rfl, Nat.zero_le _, hS⟩ ?_
  clear hS
  rintro _ w1 q ⟨k, rfl, rfl, hk, hS⟩
  (conv => whnf)
  refine brD (fun h3 => ?_) (fun h3 => ?_)
  · obtain ⟨b0, o0, x, hxk, _, rfl, _, hc⟩ := hx.at (k := k) (by omega)
    obtain ⟨b1, o1, y, hyk, _, rfl, _, hd⟩ := hy.at (k := k) (by omega)
    obtain rfl : x = y := Option.some.inj (hxk.symm.trans hyk)
    (conv => whnf)
    (refine drawS tabOk mixed [] No [0, 1, 2, 3, 4, 5, 6, 7, 8] (by kernel_rfl) ?_; rintro w1 rfl; replace hS := hS.drew)
    (conv => whnf)
    refine IdxC.mk (by omega) (by omega) ?_
    (conv => whnf)
    refine hS.larF rfl hc id id ?_
    (conv => whnf)
    refine IdxC.mk (by omega) (by omega) ?_
    (conv => whnf)
    refine hS.larF rfl hd id id ?_
    (conv => whnf)
    refine neEv ?_
    (conv => whnf)
    refine RngC.mk (by omega) (by omega) ?_
    (conv => whnf)
    refine LoopE.mk ⟨_, [(5, .int .i64 ((k + 1 : Nat) : Int)), (1, _), (0, _)], ?_, ⟨rfl, rfl, rfl, trivial⟩, ⟨k + 1, rfl, rfl, by omega, hS⟩⟩
    omega
  · obtain rfl : k = n := by omega
    repeat' ((conv => whnf); first | refine RetC.mk ?_ | refine NzC.mk (by decide) ?_ | refine RngC.mk (by omega) (by omega) ?_ | refine IdxC.mk (by omega) (by omega) ?_ | refine brD (fun _ => ?_) (fun _ => ?_) | refine brND (fun _ => ?_) (fun _ => ?_) | refine brN (fun _ => ?_) (fun _ => ?_) | refine brI (fun _ => ?_) (fun _ => ?_))
    exact ⟨rfl, hS.ext⟩
theorem same_cells {w : World} {vs us : List NoteV} {ns : List NoteS} (h : (cellsE vs ns).holds w) (g : (cellsE us ns).holds w) : SameN w vs us := by
  intro k x y hx hy
  obtain ⟨z, hz⟩ : ∃ z, ns[k]? = some z := ⟨_, List.getElem?_eq_getElem (by have := (List.getElem?_eq_some_iff.1 hx).1; rw [h.1] at this; exact this)⟩
  obtain ⟨h1, h2⟩ := cellsE_get h hx hz
  obtain ⟨g1, g2⟩ := cellsE_get g hy hz
  exact ⟨h1.fro.trans g1.fro.symm, h1.life.trans g1.life.symm, h1.epoch.trans g1.epoch.symm, h1.claim.trans g1.claim.symm, z.cells, h2, g2⟩
theorem St.stands {E : Nat → Addr} {m : Nat} {w0 : World} {X : WorldA} {V : WorldS} {P R : List Ent} (hS : St w0 No w (P ++ (worldH X V ++ R))) (hE : Errs w0 E w0.heap.size insErrs) (ok : WOk m V) : Stands E w0.heap.size m w X V :=
  ⟨hS.has.right.left, ok, hE.ext hS.ext fun _ h => h.elim, fun _ hb => hS.new_high (inF_app.2 (.inr (inF_app.2 (.inl hb))))⟩
theorem handle_lt (h : Handle w) : 11 < w.heap.size := cell_lt h
theorem codes_of {E : Nat → Addr} {w0 : World} (hE : Errs w0 E w0.heap.size allErrs) (hh : Handle w0) (hx : Ext No w0 w) : Codes E w0.heap.size w := ⟨hE.ext hx fun _ h => h.elim, hh.ext hx, handle_lt hh⟩
theorem ownL_cap {α : Type} {e : TypeId} {sz n c : Nat} {enc : α → List Value} {a : Option Addr} {xs : List α} (h : (ownL e sz enc (.slice a n c) xs).holds w) : n ≤ c := by
  rcases own_blk h with ⟨_, h1, _, h2, _⟩ | ⟨_, _, _, h1, _, h2, _⟩
  · omega
  · omega
theorem dec_ruleW {d : Nat} (hd : 10 ≤ d) : Dec Tryz.prog w d 92 encRule (fun _ => True) := by
  intro cs h
  have h1 : flatK Tryz.prog 10 92 = some [.bool, .bool, .int, .int, .int] := by kernel_rfl
  have h2 : Tryz.prog.cellsOf 92 = 5 := by kernel_rfl
  obtain ⟨ps, rfl, hk, hok⟩ := shp_flat 10 d _ _ cs h1 hd h2 h
  obtain ⟨p1, r, rfl, g1, hk⟩ := kinds_cons hk
  obtain ⟨p2, r, rfl, g2, hk⟩ := kinds_cons hk
  obtain ⟨p3, r, rfl, g3, hk⟩ := kinds_cons hk
  obtain ⟨p4, r, rfl, g4, hk⟩ := kinds_cons hk
  obtain ⟨p5, r, rfl, g5, hk⟩ := kinds_cons hk
  obtain rfl := kinds_nil hk
  obtain ⟨n1, rfl⟩ := k_bool g1
  obtain ⟨n2, rfl⟩ := k_bool g2
  obtain ⟨n3, rfl⟩ := k_int g3
  obtain ⟨n4, rfl⟩ := k_int g4
  obtain ⟨n5, rfl⟩ := k_int g5
  exact ⟨⟨n1, n2, n3, n4, n5⟩, rfl, trivial⟩
end
end Go.Proofs.YtoaghhcjlfiflaaGreatDoor

namespace Go.Proofs.YtoaghhcjlfiflaaGreatDoor
open Go Ev
section
variable {w w' w0 : World} {Y : RWorldA} {W : WorldS} {R : RBys} {m j : Nat}
def RWorldA.off (Y : RWorldA) (la : Option Addr) (lc : Nat) (i : Nat) : RWorldA := { Y with la := la, lc := lc, vs := Y.vs.eraseIdx i }
def rgotH (Y : RWorldA) (W : WorldS) (i : Nat) (la : Option Addr) (lc : Nat) (np bp : List (Option Addr)) : List Ent := [blk Y.w 123 (encRW (Y.off la lc i) (W.off i)), ownL 126 1 encP (.slice Y.na 2 Y.nc) np, ownL 124 1 encP (.slice Y.ba 2 Y.bc) bp, ownL 134 5 encNV (.slice la (W.fly.eraseIdx i).length lc) (Y.vs.eraseIdx i), cellsE Y.vs W.fly, ownL 135 2 encEv (.slice Y.ea W.events.length Y.ec) W.events]
theorem St.rgotOff {w0 w : World} {S : Nat → Prop} {i : Nat} {la : Option Addr} {lc : Nat} {np bp : List (Option Addr)} {B : List Ent} (hS : St w0 S w (rgotH Y W i la lc np bp ++ B)) : St w0 S w (rfixH (Y.off la lc i) (W.off i) np bp ++ B) := by
  have hc1 : (cellsE Y.vs W.fly).holds w := hS.get 4 rfl
  exact hS.upd 4 rfl (T := No) (Ext.refl _ _) (fun _ h => h.elim) cellsE_local (cellsE_erase hc1 i) (fun b hb => .inl (erase_foot hb))
theorem RTurns.fixed (h : Has w (rworldH Y W R)) {Y' : RWorldA} {W' : WorldS} (k : Turns w w' (rfixH Y W [rnodeP Y.a W.a, rnodeP Y.b W.b] [byP Y.a, byP Y.b]) (rfixH Y' W' [rnodeP Y.a W.a, rnodeP Y.b W.b] [byP Y.a, byP Y.b])) (ha : Y'.a = Y.a) (hb : Y'.b = Y.b) (ka : W'.a = W.a) (kb : W'.b = W.b) : Turns w w' (rworldH Y W R) (rworldH Y' W' R) := by
  unfold rworldH
  rw [ha, hb, ka, kb]
  exact Turns.frame h k
theorem rtake_bad (k : Int) (h : RStands w0 m j w Y W R) (hk : W.at_ k ≠ 0) : CallC Tryz.prog 120 #[.pointer (some ⟨Y.w, 0, none⟩), .int .i64 k] w fun v w' => v = .tuple #[.agg (encNV noNV).toArray, .bool false] ∧ Ext No w w' := by
  have hb : k < 0 ∨ k ≥ W.fly.length := by
    unfold WorldS.at_ at hk
    refine Classical.byContradiction fun h => hk (if_neg h)
  have hW := h.has.start
  refine fn_intro tabOk Tryz.func120 (by kernel_rfl) rfl Tryz.ntmps120 (Nat.le_of_ble_eq_true rfl) ?_
  have hS := St.start w No
  (conv => whnf)
  refine hS.new (fun b4 w1 hb4 hS => ?_)
  have hld := (h.has.read hS.ext).start
  (conv => whnf)
  refine brD (fun h1 => ?_) (fun h1 => ?_)
  · (conv => whnf)
    refine hS.st 0 rfl (Nat.le_of_ble_eq_true rfl) rfl (fun w' hS => ?_)
    (conv => whnf)
    refine hS.laX 0 rfl rfl ?_
    repeat' ((conv => whnf); first | refine RetC.mk ?_ | refine NzC.mk (by decide) ?_ | refine RngC.mk (by omega) (by omega) ?_ | refine IdxC.mk (by omega) (by omega) ?_ | refine brD (fun _ => ?_) (fun _ => ?_) | refine brND (fun _ => ?_) (fun _ => ?_) | refine brN (fun _ => ?_) (fun _ => ?_) | refine brI (fun _ => ?_) (fun _ => ?_))
    exact ⟨rfl, hS.ext⟩
  · (conv => whnf)
    refine hld.ld 0 rfl rfl ?_
    (conv => whnf)
    refine brD (fun h2 => ?_) (fun h2 => by omega)
    (conv => whnf)
    refine hS.st 0 rfl (Nat.le_of_ble_eq_true rfl) rfl (fun w' hS => ?_)
    (conv => whnf)
    refine hS.laX 0 rfl rfl ?_
    repeat' ((conv => whnf); first | refine RetC.mk ?_ | refine NzC.mk (by decide) ?_ | refine RngC.mk (by omega) (by omega) ?_ | refine IdxC.mk (by omega) (by omega) ?_ | refine brD (fun _ => ?_) (fun _ => ?_) | refine brND (fun _ => ?_) (fun _ => ?_) | refine brN (fun _ => ?_) (fun _ => ?_) | refine brI (fun _ => ?_) (fun _ => ?_))
    exact ⟨rfl, hS.ext⟩
theorem rtake_ok {np bp : List (Option Addr)} {i : Nat} {x : NoteV} (hH : Has w (rfixH Y W np bp)) (hi : i < W.fly.length) (hm : W.fly.length ≤ 200) (hx : Y.vs[i]? = some x) : CallC Tryz.prog 120 #[.pointer (some ⟨Y.w, 0, none⟩), .int .i64 (i : Int)] w fun v w' => v = .tuple #[.agg (encNV x).toArray, .bool true] ∧ ∃ la lc, Turns w w' (rfixH Y W np bp) (rgotH Y W i la lc np bp) := by
  have hl : Y.vs.length = W.fly.length := (hH.get 4 rfl : (cellsE Y.vs W.fly).holds w).1
  have hrow := ownL_slc (G := fun _ => True) codNote (hH.get 3 rfl) (fun _ _ => trivial)
  have hcap := ownL_cap (hH.get 3 rfl)
  obtain ⟨b0, o0, hfa, _⟩ := hrow.cells i x hx
  have hS := hH.start
  have hlt : (Y.vs.take i).length = i := by rw [List.length_take]; omega
  have hle : (Y.vs.eraseIdx i) = Y.vs.take i ++ Y.vs.drop (i + 1) := List.eraseIdx_eq_take_drop_succ _ _
  have hln : (W.fly.eraseIdx i).length = i + (W.fly.length - (i + 1)) := by rw [List.length_eraseIdx, if_pos hi]; omega
  refine fn_intro tabOk Tryz.func120 (by kernel_rfl) rfl Tryz.ntmps120 (Nat.le_of_ble_eq_true rfl) ?_
  (conv => whnf)
  refine hS.new (fun b4 w1 hb4 hS => ?_)
  (conv => whnf)
  refine hS.ld 0 rfl rfl ?_
  (conv => whnf)
  refine brD (fun h2 => absurd h2 (by omega)) (fun h2 => ?_)
  (conv => whnf)
  refine hS.ld 0 rfl (v := .slice (some ⟨b0, o0, none⟩) W.fly.length Y.lc) (by rw [← hfa]; rfl) ?_
  (conv => whnf)
  refine IdxC.mk (by omega) (by omega) ?_
  (conv => whnf)
  refine hS.ldRow codNote 3 (by rw [← hfa]; rfl) hx rfl ?_
  (conv => whnf)
  refine hS.new (fun b6 w2 hb6 hS => ?_)
  (conv => whnf)
  refine hS.st 7 rfl (Nat.le_of_ble_eq_true rfl) rfl (fun w3 hS => ?_)
  replace hS := hS.addNil 134 5 encNV
  (conv => whnf)
  refine hS.ld 0 rfl rfl ?_
  (conv => whnf)
  refine slcHead (ownL_slc (G := fun _ => True) codNote (hS.get 3 rfl) (fun _ _ => trivial)) hcap Tryz.underlying79 (by kernel_rfl) rfl (by omega) (fun a5 c5 hx5 => ?_)
  (conv => whnf)
  refine hS.appS codNote 8 (xs := []) Tryz.underlying79 (bytes := 56) (by kernel_rfl) (z := .agg (encNV noNV).toArray) (by kernel_rfl) rfl rfl hx5 (by unfold maxLen; simp; omega) (by simp; omega) (fun a6 c6 w6 hS => ?_)
  rw [show ([] : List NoteV).length + i = i by simp] at hS ⊢
  (conv => whnf)
  refine hS.ld 0 rfl rfl ?_
  (conv => whnf)
  refine RngC.mk (by omega) (by omega) ?_
  (conv => whnf)
  refine slcTail (j := i + 1) (ownL_slc (G := fun _ => True) codNote (hS.get 3 rfl) (fun _ _ => trivial)) hcap Tryz.underlying79 (by kernel_rfl) (by kernel_rfl) (by omega) (by omega) (fun a7 c7 hx7 hc7 => ?_)
  (conv => whnf)
  refine hS.appS codNote 8 Tryz.underlying79 (bytes := 56) (by kernel_rfl) (z := .agg (encNV noNV).toArray) (by kernel_rfl) rfl rfl hx7 (by simp only [List.nil_append]; rw [hlt]; unfold maxLen; omega) (by simp only [List.nil_append]; rw [hlt]; omega) (fun a8 c8 w8 hS => ?_)
  simp only [List.nil_append] at hS ⊢
  rw [hlt, ← hln, ← hle] at hS
  rw [hlt, ← hln]
  (conv => whnf)
  refine hS.st 0 rfl (by exact Nat.le_of_ble_eq_true rfl) rfl (fun w9 hS => ?_)
  (conv => whnf)
  refine hS.laX 7 rfl rfl ?_
  (conv => whnf)
  refine hS.st 6 rfl (by exact Nat.le_of_ble_eq_true rfl) rfl (fun w10 hS => ?_)
  (conv => whnf)
  refine hS.laX 6 rfl rfl ?_
  repeat' ((conv => whnf); first | refine RetC.mk ?_ | refine NzC.mk (by decide) ?_ | refine RngC.mk (by omega) (by omega) ?_ | refine IdxC.mk (by omega) (by omega) ?_ | refine brD (fun _ => ?_) (fun _ => ?_) | refine brND (fun _ => ?_) (fun _ => ?_) | refine brN (fun _ => ?_) (fun _ => ?_) | refine brI (fun _ => ?_) (fun _ => ?_))
  refine ⟨rfl, a8, c8, ?_⟩
  exact St.turns (hS.sel [0, 1, 2, 8, 4, 5] (by decide))
theorem rwdrop_ok (k : Int) (h : RStands w0 m j w Y W R) : CallC Tryz.prog 75 #[.pointer (some ⟨Y.w, 0, none⟩), .int .i64 k] w fun v w' => v = .int .i64 ((W.drop k).1 : Nat) ∧ RDoes w0 m j w Y W R (W.drop k).2 w' := by
  by_cases hu : W.at_ k = 0
  case neg =>
    have h4 : W.at_ k = 4 := by
      unfold WorldS.at_ at hu ⊢
      split at hu
      · rename_i h1
        rw [if_pos h1]
      · exact absurd rfl hu
    rw [show W.drop k = (W.at_ k, W) from if_pos hu, h4]
    refine fn_intro tabOk Tryz.func75 (by kernel_rfl) rfl Tryz.ntmps75 (Nat.le_of_ble_eq_true rfl) ?_
    have hS := St.start w No
    (conv => whnf)
    refine (rtake_bad k h hu).mono ?_
    rintro v w1 ⟨rfl, hx⟩
    replace hS := hS.no hx
    (conv => whnf)
    refine hS.new (fun b1 w2 hb1 hS => ?_)
    (conv => whnf)
    refine hS.st 0 rfl (Nat.le_of_ble_eq_true rfl) rfl (fun w' hS => ?_)
    repeat' ((conv => whnf); first | refine RetC.mk ?_ | refine NzC.mk (by decide) ?_ | refine RngC.mk (by omega) (by omega) ?_ | refine IdxC.mk (by omega) (by omega) ?_ | refine brD (fun _ => ?_) (fun _ => ?_) | refine brND (fun _ => ?_) (fun _ => ?_) | refine brN (fun _ => ?_) (fun _ => ?_) | refine brI (fun _ => ?_) (fun _ => ?_))
    exact ⟨rfl, RDoes.same h (Nat.le_refl _) (Nat.le_refl _) hS.ext⟩
  rw [show W.drop k = (0, W.off k) from if_neg (fun h => h hu)]
  obtain ⟨i, rfl, hi⟩ := at_in hu
  have hl : Y.vs.length = W.fly.length := (h.has.get 4 rfl : (cellsE Y.vs W.fly).holds w).1
  obtain ⟨x, hx⟩ : ∃ x, Y.vs[i]? = some x := ⟨_, List.getElem?_eq_getElem (by omega)⟩
  refine fn_intro tabOk Tryz.func75 (by kernel_rfl) rfl Tryz.ntmps75 (Nat.le_of_ble_eq_true rfl) ?_
  (conv => whnf)
  refine (rtake_ok h.has.left hi h.ok.fly hx).mono ?_
  rintro v w1 ⟨rfl, la, lc, hk⟩
  have hS := (h.has.left.start.turned hk)
  (conv => whnf)
  refine hS.new (fun b1 w2 hb1 hS => ?_)
  (conv => whnf)
  refine hS.st 6 rfl (Nat.le_of_ble_eq_true rfl) rfl (fun w' hS => ?_)
  repeat' ((conv => whnf); first | refine RetC.mk ?_ | refine NzC.mk (by decide) ?_ | refine RngC.mk (by omega) (by omega) ?_ | refine IdxC.mk (by omega) (by omega) ?_ | refine brD (fun _ => ?_) (fun _ => ?_) | refine brND (fun _ => ?_) (fun _ => ?_) | refine brN (fun _ => ?_) (fun _ => ?_) | refine brI (fun _ => ?_) (fun _ => ?_))
  have hk2 := RTurns.fixed h.has (Y' := Y.off la lc i) (W' := W.off i) (St.turns (St.rgotOff (B := []) (hS.keep 6))) rfl rfl rfl rfl
  exact ⟨rfl, Y.off la lc i, R, rfl, hk2, h.turns hk2 (h.ok.off i) h.rules h.a h.b⟩
theorem hear_rules (N : NodeS) (x : NoteS) : (N.hear x).2.rules = N.rules := by
  unfold NodeS.hear
  repeat' split
  all_goals rfl
set_option maxHeartbeats 1000000 in
theorem rwdeliver_ok (k : Int) (h : RStands w0 m j w Y W R) : CallC Tryz.prog 78 #[.pointer (some ⟨Y.w, 0, none⟩), .int .i64 k] w fun v w' => v = .int .i64 ((W.deliver k).1 : Nat) ∧ RDoes w0 m j w Y W R (W.deliver k).2 w' := by
  by_cases hu : W.at_ k = 0
  case neg =>
    have h4 : W.at_ k = 4 := by
      unfold WorldS.at_ at hu ⊢
      split at hu
      · rename_i h1
        rw [if_pos h1]
      · exact absurd rfl hu
    rw [show W.deliver k = (W.at_ k, W) from if_pos hu, h4]
    refine fn_intro tabOk Tryz.func78 (by kernel_rfl) rfl Tryz.ntmps78 (Nat.le_of_ble_eq_true rfl) ?_
    have hS := St.start w No
    (conv => whnf)
    refine (rtake_bad k h hu).mono ?_
    rintro v w1 ⟨rfl, hx⟩
    replace hS := hS.no hx
    (conv => whnf)
    refine hS.new (fun b1 w2 hb1 hS => ?_)
    (conv => whnf)
    refine hS.st 0 rfl (Nat.le_of_ble_eq_true rfl) rfl (fun w' hS => ?_)
    repeat' ((conv => whnf); first | refine RetC.mk ?_ | refine NzC.mk (by decide) ?_ | refine RngC.mk (by omega) (by omega) ?_ | refine IdxC.mk (by omega) (by omega) ?_ | refine brD (fun _ => ?_) (fun _ => ?_) | refine brND (fun _ => ?_) (fun _ => ?_) | refine brN (fun _ => ?_) (fun _ => ?_) | refine brI (fun _ => ?_) (fun _ => ?_))
    exact ⟨rfl, RDoes.same h (Nat.le_refl _) (Nat.le_refl _) hS.ext⟩
  obtain ⟨i, rfl, hi⟩ := at_in hu
  have hflen := h.ok.fly
  have hc : (cellsE Y.vs W.fly).holds w := h.has.get 4 rfl
  have hl : Y.vs.length = W.fly.length := hc.1
  obtain ⟨x, hxi⟩ : ∃ x, Y.vs[i]? = some x := ⟨_, List.getElem?_eq_getElem (by omega)⟩
  obtain ⟨y, hyi⟩ : ∃ y, W.fly[i]? = some y := ⟨_, List.getElem?_eq_getElem (by omega)⟩
  obtain ⟨hxy, hsl⟩ := cellsE_get hc hxi hyi
  obtain ⟨hyf, hyl⟩ := h.ok.notes y (List.mem_of_getElem? hyi)
  have hw : W.deliver i = (0, (W.off i).got y) := by
    unfold WorldS.deliver
    rw [if_neg (fun h => h hu)]
    show (match W.fly[(i : Int).toNat]? with | none => _ | some x => _) = _
    rw [Int.toNat_natCast, hyi]
  have hok := h.ok.deliver i
  rw [hw] at hok ⊢
  clear hc hsl hw hu
  cases hcl : y.claim
  case true =>
    have hxc : x.claim = true := hxy.claim.trans hcl
    have hxe := hxy.epoch
    have hxf := hxy.fro
    have e1 : (W.off (i : Int)).epoch = W.epoch := rfl
    have e2 : (W.off (i : Int)).to = W.to := rfl
    have hg1 : y.epoch > W.epoch ∨ W.to < 0 → (W.off i).got y = { W.off i with to := x.fro, epoch := x.epoch } := fun h => by
      unfold WorldS.got
      rw [if_pos hcl, hxe, hxf]
      exact if_pos h
    have hg2 : ¬ (y.epoch > W.epoch ∨ W.to < 0) → (W.off i).got y = W.off i := fun h => by
      unfold WorldS.got
      rw [if_pos hcl]
      exact if_neg h
    have hfin : ∀ {w' : World} {W' : WorldS} {la : Option Addr} {lc : Nat}, WOk m W' → W'.a = W.a → W'.b = W.b → W'.rules = W.rules → Turns w w' (rfixH Y W [rnodeP Y.a W.a, rnodeP Y.b W.b] [byP Y.a, byP Y.b]) (rfixH (Y.off la lc i) W' [rnodeP Y.a W.a, rnodeP Y.b W.b] [byP Y.a, byP Y.b]) → RDoes w0 m j w Y W R W' w' := fun {w'} {W'} {la} {lc} ok ha hb hr k => by
      have hk2 := RTurns.fixed h.has (Y' := Y.off la lc i) k rfl rfl ha hb
      refine ⟨Y.off la lc i, R, rfl, hk2, h.turns hk2 ok ?_ ?_ ?_⟩
      · rw [hr]
        exact h.rules
      · rw [ha]
        exact h.a
      · rw [hb]
        exact h.b
    refine fn_intro tabOk Tryz.func78 (by kernel_rfl) rfl Tryz.ntmps78 (Nat.le_of_ble_eq_true rfl) ?_
    (conv => whnf)
    refine (rtake_ok h.has.left hi h.ok.fly hxi).mono ?_
    rintro v w1 ⟨rfl, la, lc, hk⟩
    have hS := (h.has.left.start.turned hk)
    clear hk
    (conv => whnf)
    refine hS.new (fun b1 w2 hb1 hS => ?_)
    (conv => whnf)
    refine hS.st 6 rfl (Nat.le_of_ble_eq_true rfl) rfl (fun w3 hS => ?_)
    (conv => whnf)
    refine hS.ld 6 rfl (v := .bool true) (by rw [← hxc]; rfl) ?_
    (conv => whnf)
    (refine drawS tabOk mixed [] No [0, 1, 2, 3, 4, 5, 6, 7, 8, 9, 10, 11, 12, 13] (by kernel_rfl) ?_; rintro w1 rfl; replace hS := hS.drew)
    repeat' ((conv => whnf); first | refine RetC.mk ?_ | refine NzC.mk (by decide) ?_ | refine RngC.mk (by omega) (by omega) ?_ | refine IdxC.mk (by omega) (by omega) ?_ | refine hS.ldF 6 rfl rfl id ?_ | refine hS.ldF 0 rfl rfl id ?_ | refine brD (fun _ => ?_) (fun _ => ?_) | refine brND (fun _ => ?_) (fun _ => ?_) | refine brN (fun _ => ?_) (fun _ => ?_) | refine brI (fun _ => ?_) (fun _ => ?_))
    all_goals first
      | (rw [hg2 (by omega)] at hok ⊢; exact ⟨rfl, hfin hok rfl rfl rfl (St.turns (St.rgotOff (B := []) (hS.keep 6)))⟩)
      | (rw [hg1 (by omega)] at hok ⊢
         repeat' ((conv => whnf); first | refine RetC.mk ?_ | refine NzC.mk (by decide) ?_ | refine RngC.mk (by omega) (by omega) ?_ | refine IdxC.mk (by omega) (by omega) ?_ | refine hS.ld 6 rfl rfl ?_ | (refine hS.st 0 rfl (by exact Nat.le_of_ble_eq_true rfl) rfl (fun w' hS => ?_)) | refine brD (fun _ => ?_) (fun _ => ?_) | refine brND (fun _ => ?_) (fun _ => ?_) | refine brN (fun _ => ?_) (fun _ => ?_) | refine brI (fun _ => ?_) (fun _ => ?_))
         exact ⟨rfl, hfin hok rfl rfl rfl (St.turns (St.rgotOff (W := { W with to := x.fro, epoch := x.epoch }) (B := []) (hS.keep 6)))⟩)
  case false =>
    have hxc : x.claim = false := hxy.claim.trans hcl
    have hn : 1 - y.fro = 0 ∨ 1 - y.fro = 1 := by omega
    have hxf := hxy.fro
    have hsd := h.side hn
    have hT : ∀ {w'} {la : Option Addr} {lc : Nat} {A : RNodeA} {s : SideS}, ((W.off i).got y) = (W.off i).setSide (1 - y.fro) s → RSide w0 j A s (R.side (1 - y.fro)) → Turns w w' (rhalfH Y W R (1 - y.fro)) (rfixH (Y.off la lc i) (W.off i) (two (1 - y.fro) (rnodeP A s) (rnodeP (Y.side (1 - (1 - y.fro))) (W.side (1 - (1 - y.fro))))) (two (1 - y.fro) (byP A) (byP (Y.side (1 - (1 - y.fro))))) ++ rsideH A s (R.side (1 - y.fro))) → RDoes w0 m j w Y W R ((W.off i).got y) w' := by
      intro w' la lc A s hg hs k
      have h1 := rhalf_set (Y := Y.off la lc i) (W := W.off i) (R := R) hn A s (R.side (1 - y.fro))
      have h2 : R.setSide (1 - y.fro) (R.side (1 - y.fro)) = R := by rcases hn with e | e <;> (rw [e]; rfl)
      rw [h2] at h1
      have hyl2 : (Y.off la lc i).side (1 - (1 - y.fro)) = Y.side (1 - (1 - y.fro)) := rfl
      have hwl2 : (W.off i).side (1 - (1 - y.fro)) = W.side (1 - (1 - y.fro)) := rfl
      rw [hyl2, hwl2] at h1
      rw [← h1] at k
      have hk2 := RTurns.world hn h.has (Y' := (Y.off la lc i).setSide (1 - y.fro) A) (W' := (W.off i).setSide (1 - y.fro) s) (R' := R) k (rside_set (Y := Y.off la lc i) (R := R) hn A s (R.side (1 - y.fro))).2.1 (by rcases hn with e | e <;> (rw [e]; rfl)) rfl
      rw [hg] at hok ⊢
      refine ⟨(Y.off la lc i).setSide (1 - y.fro) A, R, by rcases hn with e | e <;> (rw [e]; rfl), hk2, ?_⟩
      generalize 1 - y.fro = z at *
      rcases hn with rfl | rfl
      · exact h.turns hk2 hok h.rules hs h.b
      · exact h.turns hk2 hok h.rules h.a hs
    have hS := (h.half hn).start
    cases hN : (W.side (1 - y.fro)).node with
    | none =>
      have hg : (W.off i).got y = (W.off i).setSide (1 - y.fro) (W.side (1 - y.fro)) := by
        have e : (W.off i).got y = W.off i := by
          unfold WorldS.got
          rw [if_neg (by rw [hcl]; decide), if_neg (by omega)]
          show (match (W.side (1 - y.fro)).node with | none => _ | some N => _) = _
          rw [hN]
        rw [e]
        rcases hn with e | e <;> (rw [e]; rfl)
      have hU : ∀ {w'} {la : Option Addr} {lc : Nat}, St w (inF (rhalfH Y W R (1 - y.fro))) w' (rfixH (Y.off la lc i) (W.off i) (two (1 - y.fro) none (rnodeP (Y.side (1 - (1 - y.fro))) (W.side (1 - (1 - y.fro))))) (two (1 - y.fro) (byP (Y.side (1 - y.fro))) (byP (Y.side (1 - (1 - y.fro))))) ++ [blk (Y.side (1 - y.fro)).b 171 (encRB (R.side (1 - y.fro)))]) → RDoes w0 m j w Y W R ((W.off i).got y) w' := fun {w'} {la} {lc} k => by
        refine hT (la := la) (lc := lc) (A := Y.side (1 - y.fro)) hg hsd ?_
        rw [rnodeP_none hN, rsideH_none hN]
        exact St.turns k
      generalize hSS : inF (rhalfH Y W R (1 - y.fro)) = S at hS hU
      rw [rhalf_down hN] at hS
      obtain ⟨gn, hgn⟩ := two_own (hS.get 1 rfl)
      refine fn_intro tabOk Tryz.func78 (by kernel_rfl) rfl Tryz.ntmps78 (Nat.le_of_ble_eq_true rfl) ?_
      (conv => whnf)
      refine (rtake_ok hS.has.left hi h.ok.fly hxi).mono ?_
      rintro v w1 ⟨rfl, la, lc, hk⟩
      replace hS := St.call (B := [_]) hS hk
      clear hk
      (conv => whnf)
      refine hS.new (fun b1 w2 hb1 hS => ?_)
      (conv => whnf)
      refine hS.st 7 rfl (Nat.le_of_ble_eq_true rfl) rfl (fun w3 hS => ?_)
      (conv => whnf)
      refine hS.ld 7 rfl (v := .bool false) (by rw [← hxc]; rfl) ?_
      (conv => whnf)
      (refine drawS tabOk mixed [] No [0, 1, 2, 3, 4, 5, 6, 7, 8, 9] (by kernel_rfl) ?_; rintro w1 rfl; replace hS := hS.drew)
      (conv => whnf)
      refine hS.ldF 0 rfl (v := .slice (some ⟨gn, 0, none⟩) 2 Y.nc) (by rw [← hgn]; rfl) id ?_
      (conv => whnf)
      refine hS.ldF 7 rfl (v := .int .i64 y.fro) (by rw [← hxf]; rfl) id ?_
      (conv => whnf)
      refine RngC.mk (by omega) (by omega) ?_
      (conv => whnf)
      refine IdxC.mk (by omega) (by omega) ?_
      (conv => whnf)
      refine hS.ldTwoF 1 hn (by rw [← hgn]; rfl) rfl id ?_
      repeat' ((conv => whnf); first | refine RetC.mk ?_ | refine NzC.mk (by decide) ?_ | refine RngC.mk (by omega) (by omega) ?_ | refine IdxC.mk (by omega) (by omega) ?_ | refine brD (fun _ => ?_) (fun _ => ?_) | refine brND (fun _ => ?_) (fun _ => ?_) | refine brN (fun _ => ?_) (fun _ => ?_) | refine brI (fun _ => ?_) (fun _ => ?_))
      exact ⟨rfl, hU (St.rgotOff (B := [_]) (hS.keep 7))⟩
    | some N =>
      have hnk := ((h.ok.side hn).node N hN).1
      have hg : (W.off i).got y = (W.off i).setSide (1 - y.fro) ⟨some (N.hear y).2, (W.side (1 - y.fro)).byt⟩ := by
        unfold WorldS.got
        rw [if_neg (by rw [hcl]; decide), if_neg (by omega)]
        show (match (W.side (1 - y.fro)).node with | none => _ | some N => _) = _
        rw [hN]
        rfl
      have hrl := hsd.rules N hN
      have hrls := hear_rules N y
      have hU : ∀ {w'} {la : Option Addr} {lc : Nat} {A : RNodeA}, A.n = (Y.side (1 - y.fro)).n → A.b = (Y.side (1 - y.fro)).b → A.ra = (Y.side (1 - y.fro)).ra → St w (inF (rhalfH Y W R (1 - y.fro))) w' (rfixH (Y.off la lc i) (W.off i) (two (1 - y.fro) (some ⟨(Y.side (1 - y.fro)).n, 0, none⟩) (rnodeP (Y.side (1 - (1 - y.fro))) (W.side (1 - (1 - y.fro))))) (two (1 - y.fro) (byP (Y.side (1 - y.fro))) (byP (Y.side (1 - (1 - y.fro))))) ++ rnodeH A (N.hear y).2 (R.side (1 - y.fro))) → RDoes w0 m j w Y W R ((W.off i).got y) w' := fun {w'} {la} {lc} {A} h1 h2 h3 k => by
        refine hT (la := la) (lc := lc) (A := A) (s := ⟨some (N.hear y).2, (W.side (1 - y.fro)).byt⟩) hg ⟨hsd.alike, hsd.rok, fun M hM => ?_⟩ ?_
        · obtain rfl := Option.some.inj hM
          rw [hrls, h3]
          exact hrl
        · have := St.turns k
          rw [← h1, show byP (Y.side (1 - y.fro)) = byP A by unfold byP; rw [h2]] at this
          exact this
      generalize hSS : inF (rhalfH Y W R (1 - y.fro)) = S at hS hU
      rw [rhalf_up hN] at hS
      obtain ⟨gn, hgn⟩ := two_own (hS.get 1 rfl)
      refine fn_intro tabOk Tryz.func78 (by kernel_rfl) rfl Tryz.ntmps78 (Nat.le_of_ble_eq_true rfl) ?_
      (conv => whnf)
      refine (rtake_ok hS.has.left hi h.ok.fly hxi).mono ?_
      rintro v w1 ⟨rfl, la, lc, hk⟩
      replace hS := St.call (B := rnodeH (Y.side (1 - y.fro)) N (R.side (1 - y.fro))) hS hk
      clear hk
      (conv => whnf)
      refine hS.new (fun b1 w2 hb1 hS => ?_)
      (conv => whnf)
      refine hS.st 13 rfl (Nat.le_of_ble_eq_true rfl) rfl (fun w3 hS => ?_)
      (conv => whnf)
      refine hS.ld 13 rfl (v := .bool false) (by rw [← hxc]; rfl) ?_
      (conv => whnf)
      (refine drawS tabOk mixed [] No [0, 1, 2, 3, 4, 5, 6, 7, 8, 9] (by kernel_rfl) ?_; rintro w1 rfl; replace hS := hS.drew)
      (conv => whnf)
      refine hS.ldF 0 rfl (v := .slice (some ⟨gn, 0, none⟩) 2 Y.nc) (by rw [← hgn]; rfl) id ?_
      (conv => whnf)
      refine hS.ldF 13 rfl (v := .int .i64 y.fro) (by rw [← hxf]; rfl) id ?_
      (conv => whnf)
      refine RngC.mk (by omega) (by omega) ?_
      (conv => whnf)
      refine IdxC.mk (by omega) (by omega) ?_
      (conv => whnf)
      refine hS.ldTwoF 1 hn (by rw [← hgn]; rfl) rfl id ?_
      have hs0 := hS.notin 0 6 7 rfl (List.mem_singleton.2 rfl) (.inl (by decide))
      have hs1 := hS.notin 1 6 7 (b := gn) rfl (foot_own (by rw [hgn]; rfl)) (.inl (by decide))
      have hp := hS.notin 13 6 7 rfl (List.mem_singleton.2 rfl) (.inr (by decide))
      have hsrc : 0 < x.n → ∀ b0 o0, x.a = some ⟨b0, o0, none⟩ → ¬ inF (rnodeH (Y.side (1 - y.fro)) N (R.side (1 - y.fro))) b0 := fun h0 b0 o0 ha => hS.notin 4 6 7 (e := cellsE Y.vs W.fly) rfl (cellsE_foot.2 ⟨x, List.mem_of_getElem? hxi, footN_at h0 ha⟩) (.inl (by decide))
      (conv => whnf)
      (refine drawS tabOk mixed [] (inF (rnodeH (Y.side (1 - y.fro)) N (R.side (1 - y.fro)))) [0, 1, 2, 3, 4, 5, 6, 7, 8, 9, 10] (by kernel_rfl) ?_; rintro w1 rfl; replace hS := hS.drew)
      (conv => whnf)
      refine hS.ldF 0 rfl (v := .slice (some ⟨gn, 0, none⟩) 2 Y.nc) (by rw [← hgn]; rfl) hs0 ?_
      (conv => whnf)
      refine hS.ldF 13 rfl (v := .int .i64 y.fro) (by rw [← hxf]; rfl) hp ?_
      (conv => whnf)
      refine RngC.mk (by omega) (by omega) ?_
      (conv => whnf)
      refine IdxC.mk (by omega) (by omega) ?_
      (conv => whnf)
      refine hS.ldTwoF 1 hn (by rw [← hgn]; rfl) rfl hs1 ?_
      (conv => whnf)
      refine hS.laXF 13 rfl rfl hp ?_
      (conv => whnf)
      have hw3 : Has _ (rnodeH (Y.side (1 - y.fro)) N (R.side (1 - y.fro))) := Has.left (B := [_]) (Has.right (A := [_, _, _, _, _, _]) hS.has)
      have hyx : (⟨x.fro, x.life, x.epoch, x.claim, y.cells⟩ : NoteS) = y := by
        obtain ⟨f, l, e, c, cs⟩ := y
        simp only [NoteS.mk.injEq, and_true]
        exact ⟨hxy.fro, hxy.life, hxy.epoch, hxy.claim⟩
      refine (rhear_ok x y.cells (cellsE_get (hS.get 4 rfl) hxi hyi).2 hsrc hw3 hnk).mono ?_
      rintro v w' ⟨rfl, mg, mc, hk⟩
      refine KeepC.mk hk.ext ?_
      rw [hyx] at hk
      replace hS := St.callAt (A := rgotH Y W i la lc (two (1 - y.fro) (some ⟨(Y.side (1 - y.fro)).n, 0, none⟩) (rnodeP (Y.side (1 - (1 - y.fro))) (W.side (1 - (1 - y.fro))))) (two (1 - y.fro) (byP (Y.side (1 - y.fro))) (byP (Y.side (1 - (1 - y.fro)))))) (B := [_]) hS hk
      repeat' ((conv => whnf); first | refine RetC.mk ?_ | refine NzC.mk (by decide) ?_ | refine RngC.mk (by omega) (by omega) ?_ | refine IdxC.mk (by omega) (by omega) ?_ | refine brD (fun _ => ?_) (fun _ => ?_) | refine brND (fun _ => ?_) (fun _ => ?_) | refine brN (fun _ => ?_) (fun _ => ?_) | refine brI (fun _ => ?_) (fun _ => ?_))
      exact ⟨rfl, hU (A := { Y.side (1 - y.fro) with mg := mg, mc := mc }) rfl rfl rfl (St.rgotOff (B := rnodeH { Y.side (1 - y.fro) with mg := mg, mc := mc } (N.hear y).2 (R.side (1 - y.fro))) (hS.keep 13))⟩
end
end Go.Proofs.YtoaghhcjlfiflaaGreatDoor

namespace Go.Proofs.YtoaghhcjlfiflaaGreatDoor
open Go Ev
section
variable {w w' w0 : World} {Y : RWorldA} {W : WorldS} {R : RBys} {m j : Nat}
theorem rwtwice_ok (k : Int) (h : RStands w0 m j w Y W R) : CallC Tryz.prog 76 #[.pointer (some ⟨Y.w, 0, none⟩), .int .i64 k] w fun v w' => v = .int .i64 ((W.twice k).1 : Nat) ∧ RDoes w0 m j w Y W R (W.twice k).2 w' := by
  have hflen := h.ok.fly
  by_cases hu : W.at_ k = 0
  case neg =>
    have hb : k < 0 ∨ k ≥ W.fly.length := by
      unfold WorldS.at_ at hu
      refine Classical.byContradiction fun h => hu (if_neg h)
    have h4 : W.at_ k = 4 := if_pos hb
    rw [show W.twice k = (W.at_ k, W) from if_pos hu, h4]
    refine fn_intro tabOk Tryz.func76 (by kernel_rfl) rfl Tryz.ntmps76 (Nat.le_of_ble_eq_true rfl) ?_
    have hld := h.has.start
    (conv => whnf)
    refine brD (fun h1 => ?_) (fun h1 => ?_)
    · repeat' ((conv => whnf); first | refine RetC.mk ?_ | refine NzC.mk (by decide) ?_ | refine RngC.mk (by omega) (by omega) ?_ | refine IdxC.mk (by omega) (by omega) ?_ | refine brD (fun _ => ?_) (fun _ => ?_) | refine brND (fun _ => ?_) (fun _ => ?_) | refine brN (fun _ => ?_) (fun _ => ?_) | refine brI (fun _ => ?_) (fun _ => ?_))
      exact ⟨rfl, RDoes.same h (Nat.le_refl _) (Nat.le_refl _) (Ext.refl _ _)⟩
    · (conv => whnf)
      refine hld.ld 0 rfl rfl ?_
      (conv => whnf)
      refine brD (fun h2 => ?_) (fun h2 => by omega)
      repeat' ((conv => whnf); first | refine RetC.mk ?_ | refine NzC.mk (by decide) ?_ | refine RngC.mk (by omega) (by omega) ?_ | refine IdxC.mk (by omega) (by omega) ?_ | refine brD (fun _ => ?_) (fun _ => ?_) | refine brND (fun _ => ?_) (fun _ => ?_) | refine brN (fun _ => ?_) (fun _ => ?_) | refine brI (fun _ => ?_) (fun _ => ?_))
      exact ⟨rfl, RDoes.same h (Nat.le_refl _) (Nat.le_refl _) (Ext.refl _ _)⟩
  obtain ⟨i, rfl, hi⟩ := at_in hu
  have hS := h.has.left.start
  have hc : (cellsE Y.vs W.fly).holds w := hS.get 4 rfl
  have hl : Y.vs.length = W.fly.length := hc.1
  obtain ⟨x, hx⟩ : ∃ x, Y.vs[i]? = some x := ⟨_, List.getElem?_eq_getElem (by omega)⟩
  obtain ⟨y, hy⟩ : ∃ y, W.fly[i]? = some y := ⟨_, List.getElem?_eq_getElem (by omega)⟩
  have hcap := ownL_cap (hS.get 3 rfl)
  obtain ⟨b0, o0, hfa, _⟩ := (ownL_slc (G := fun _ => True) codNote (hS.get 3 rfl) (fun _ _ => trivial)).cells i x hx
  have hlt : (Y.vs.take (i + 1)).length = i + 1 := by rw [List.length_take]; omega
  refine fn_intro tabOk Tryz.func76 (by kernel_rfl) rfl Tryz.ntmps76 (Nat.le_of_ble_eq_true rfl) ?_
  (conv => whnf)
  refine hS.ld 0 rfl rfl ?_
  (conv => whnf)
  refine brD (fun h2 => absurd h2 (by omega)) (fun h2 => ?_)
  (conv => whnf)
  refine hS.ld 0 rfl rfl ?_
  (conv => whnf)
  refine brD (fun h3 => ?_) (fun h3 => ?_)
  · rw [show W.twice i = (6, W) by unfold WorldS.twice; rw [if_neg (fun h => h hu), if_pos (by omega)]]
    repeat' ((conv => whnf); first | refine RetC.mk ?_ | refine NzC.mk (by decide) ?_ | refine RngC.mk (by omega) (by omega) ?_ | refine IdxC.mk (by omega) (by omega) ?_ | refine brD (fun _ => ?_) (fun _ => ?_) | refine brND (fun _ => ?_) (fun _ => ?_) | refine brN (fun _ => ?_) (fun _ => ?_) | refine brI (fun _ => ?_) (fun _ => ?_))
    exact ⟨rfl, RDoes.same h (Nat.le_refl _) (Nat.le_refl _) (Ext.refl _ _)⟩
  have hw : W.twice i = (0, { W with fly := W.fly.take (i + 1) ++ y :: W.fly.drop (i + 1) }) := by
    unfold WorldS.twice
    rw [if_neg (fun h => h hu), if_neg (by omega)]
    show (match W.fly[(i : Int).toNat]? with | none => _ | some x => _) = _
    rw [Int.toNat_natCast, hy]
  have hok := h.ok.twice i
  rw [hw] at hok ⊢
  have hll : (W.fly.take (i + 1) ++ y :: W.fly.drop (i + 1)).length = i + 1 + 1 + (W.fly.length - (i + 1)) := by
    simp only [List.length_append, List.length_cons, List.length_take, List.length_drop]
    omega
  replace hS := hS.addNil 134 5 encNV
  (conv => whnf)
  refine hS.ld 0 rfl rfl ?_
  (conv => whnf)
  refine RngC.mk (by omega) (by omega) ?_
  (conv => whnf)
  refine slcHead (j := i + 1) (ownL_slc (G := fun _ => True) codNote (hS.get 3 rfl) (fun _ _ => trivial)) hcap Tryz.underlying79 (by kernel_rfl) (by omega) (by omega) (fun a5 c5 hx5 => ?_)
  (conv => whnf)
  refine hS.appS codNote 6 (xs := []) Tryz.underlying79 (bytes := 56) (by kernel_rfl) (z := .agg (encNV noNV).toArray) (by kernel_rfl) rfl rfl hx5 (by unfold maxLen; simp; omega) (by simp; omega) (fun a6 c6 w6 hS => ?_)
  rw [show ([] : List NoteV).length + (i + 1) = i + 1 by simp] at hS ⊢
  (conv => whnf)
  refine hS.ld 0 rfl (v := .slice (some ⟨b0, o0, none⟩) W.fly.length Y.lc) (by rw [← hfa]; rfl) ?_
  (conv => whnf)
  refine IdxC.mk (by omega) (by omega) ?_
  (conv => whnf)
  refine hS.ldRow codNote 3 (by rw [← hfa]; rfl) hx rfl ?_
  (conv => whnf)
  refine hS.lit Tryz.underlying79 (sz := 5) (by kernel_rfl) (z := .agg (encNV noNV).toArray) (by kernel_rfl) rfl rfl (cs := encNV x) (by rfl) (fun b9 w7 hb9 hS => ?_)
  (conv => whnf)
  refine hS.appS codNote 6 (ys := [x]) (G := fun _ => True) Tryz.underlying79 (bytes := 56) (by kernel_rfl) (z := .agg (encNV noNV).toArray) (by kernel_rfl) rfl rfl (Slc.of_blk codNote (hS.blk 7 rfl) rfl (by simp) (fun _ _ => trivial) rfl) (by simp only [List.nil_append]; rw [hlt]; unfold maxLen; omega) (by simp only [List.nil_append]; rw [hlt]; omega) (fun a8 c8 w8 hS => ?_)
  simp only [List.nil_append] at hS ⊢
  rw [hlt] at hS ⊢
  (conv => whnf)
  refine hS.ld 0 rfl rfl ?_
  (conv => whnf)
  refine RngC.mk (by omega) (by omega) ?_
  (conv => whnf)
  refine slcTail (j := i + 1) (ownL_slc (G := fun _ => True) codNote (hS.get 3 rfl) (fun _ _ => trivial)) hcap Tryz.underlying79 (by kernel_rfl) (by kernel_rfl) (by omega) (by omega) (fun a7 c7 hx7 hc7 => ?_)
  have hlt2 : (Y.vs.take (i + 1) ++ [x]).length = i + 1 + 1 := by rw [List.length_append, hlt]; rfl
  (conv => whnf)
  refine hS.appS codNote 6 Tryz.underlying79 (bytes := 56) (by kernel_rfl) (z := .agg (encNV noNV).toArray) (by kernel_rfl) rfl rfl hx7 (by rw [hlt2]; unfold maxLen; omega) (by rw [hlt2]; omega) (fun a9 c9 w9 hS => ?_)
  rw [hlt2, ← hll] at hS ⊢
  rw [show Y.vs.take (i + 1) ++ [x] ++ Y.vs.drop (i + 1) = Y.vs.take (i + 1) ++ x :: Y.vs.drop (i + 1) by simp] at hS
  (conv => whnf)
  refine hS.st 0 rfl (by exact Nat.le_of_ble_eq_true rfl) rfl (fun w10 hS => ?_)
  repeat' ((conv => whnf); first | refine RetC.mk ?_ | refine NzC.mk (by decide) ?_ | refine RngC.mk (by omega) (by omega) ?_ | refine IdxC.mk (by omega) (by omega) ?_ | refine brD (fun _ => ?_) (fun _ => ?_) | refine brND (fun _ => ?_) (fun _ => ?_) | refine brN (fun _ => ?_) (fun _ => ?_) | refine brI (fun _ => ?_) (fun _ => ?_))
  obtain ⟨hxy, hsl⟩ := cellsE_get (hS.get 4 rfl) hx hy
  have hS2 := (hS.upd 4 rfl (e' := cellsE (Y.vs.take (i + 1) ++ x :: Y.vs.drop (i + 1)) (W.fly.take (i + 1) ++ y :: W.fly.drop (i + 1))) (T := No) (Ext.refl _ _) (fun _ h => h.elim) cellsE_local (twice_cells (hS.get 4 rfl) hxy hsl) (fun b hb => .inl ((twice_foot hb).elim id fun h => cellsE_foot.2 ⟨x, List.mem_of_getElem? hx, h⟩))).sel [0, 1, 2, 6, 4, 5] (by decide)
  have hk2 := RTurns.fixed h.has (Y' := { Y with la := a9, lc := c9, vs := Y.vs.take (i + 1) ++ x :: Y.vs.drop (i + 1) }) (W' := { W with fly := W.fly.take (i + 1) ++ y :: W.fly.drop (i + 1) }) (St.turns hS2) rfl rfl rfl rfl
  exact ⟨rfl, { Y with la := a9, lc := c9, vs := Y.vs.take (i + 1) ++ x :: Y.vs.drop (i + 1) }, R, rfl, hk2, h.turns hk2 hok h.rules h.a h.b⟩
theorem ruleK_ok {xs : List RuleS} (h : WOk m W) (hx : GoodR xs) : ∀ k : Nat, WOk m (W.ruleK xs k)
  | 0 => ⟨h.a, h.b, hx, h.fly, h.notes, h.to, h.events⟩
  | 1 => ⟨h.a.ruled hx, h.b, hx, h.fly, h.notes, h.to, h.events⟩
  | _ + 2 => h.rule hx
theorem ruleK_next {xs : List RuleS} {k : Nat} (hk : k = 0 ∨ k = 1) : W.ruleK xs (k + 1) = (W.ruleK xs k).setSide (k : Int) (((W.ruleK xs k).side (k : Int)).ruled xs) := by
  rcases hk with rfl | rfl
  · show ({ W with rules := xs, a := W.a.ruled xs } : WorldS) = _
    rfl
  · show ({ W with rules := xs, a := W.a.ruled xs, b := W.b.ruled xs } : WorldS) = _
    rfl
theorem rsetRules_ok {a : Option Addr} {c l : Nat} {xs : List RuleS} (hx : RulesAt w0 a l xs) (hg : GoodR xs) (h : RStands w0 m j w Y W R) :
    CallC Tryz.prog 77 #[.pointer (some ⟨Y.w, 0, none⟩), .slice a l c] w fun _ w' => RDoes w0 m j w Y W R (W.rule xs) w' := by
  have hlx : xs.length = l := Slc.len hx
  subst hlx
  refine fn_intro tabOk Tryz.func77 (by kernel_rfl) rfl Tryz.ntmps77 (Nat.le_of_ble_eq_true rfl) ?_
  have hS := h.has.left.start
  (conv => whnf)
  refine hS.st 0 rfl (Nat.le_of_ble_eq_true rfl) rfl (fun w1 hS => ?_)
  have h0 : RDoes w0 m j w Y W R (W.ruleK xs 0) w1 := by
    have hk2 := RTurns.fixed h.has (Y' := { Y with ra := a, rc := c }) (W' := W.ruleK xs 0) (St.turns hS) rfl rfl rfl rfl
    exact ⟨{ Y with ra := a, rc := c }, R, rfl, hk2, h.turns hk2 (ruleK_ok h.ok hg 0) hx h.a h.b⟩
  clear hS
  (conv => whnf)
  refine loopR tabOk (fun σ w' r => ∃ k : Nat, σ = [(4, .int .i64 k), (1, .slice a xs.length c), (0, .pointer (some ⟨Y.w, 0, none⟩))] ∧ r = 2 - k ∧ k ≤ 2 ∧ RDoes w0 m j w Y W R (W.ruleK xs k) w')
    (σ' := [(4, .int .i64 ((0 : Nat) : Int)), (1, .slice a xs.length c), (0, .pointer (some ⟨Y.w, 0, none⟩))]) (n := 2) ⟨rfl, rfl, rfl, trivial⟩ ⟨0, rfl, rfl, Nat.zero_le _, h0⟩ ?_
  clear h0
  rintro _ w2 r ⟨k, rfl, rfl, hk, Y1, R1, hw1, hT1, h1⟩
  (conv => whnf)
  refine brD (fun h3 => ?_) (fun h3 => ?_)
  · have hk2 : k = 0 ∨ k = 1 := by omega
    have hn : ((k : Nat) : Int) = 0 ∨ ((k : Nat) : Int) = 1 := by omega
    have hnext := ruleK_next (W := W) (xs := xs) hk2
    rw [← hw1]
    have hsd := h1.side hn
    have hS := (h1.half hn).start
    cases hN : ((W.ruleK xs k).side (k : Int)).node with
    | none =>
      rw [ruled_none hN] at hnext
      have hsame : W.ruleK xs (k + 1) = W.ruleK xs k := by
        rw [hnext]
        rcases hk2 with rfl | rfl <;> rfl
      rw [rhalf_down hN] at hS
      obtain ⟨g, hg2⟩ := two_own (hS.get 1 rfl)
      (conv => whnf)
      refine hS.ld 0 rfl (v := .slice (some ⟨g, 0, none⟩) 2 Y1.nc) (by rw [← hg2]; rfl) ?_
      (conv => whnf)
      refine IdxC.mk (by omega) (by omega) ?_
      (conv => whnf)
      refine hS.ldTwo 1 hn (by rw [← hg2]; rfl) rfl ?_
      (conv => whnf)
      refine RngC.mk (by omega) (by omega) ?_
      (conv => whnf)
      refine LoopE.mk ⟨_, [(4, .int .i64 ((k + 1 : Nat) : Int)), (1, _), (0, _)], ?_, ⟨rfl, rfl, rfl, trivial⟩, ⟨k + 1, rfl, rfl, by omega, by rw [hsame]; exact ⟨Y1, R1, hw1, hT1, h1⟩⟩⟩
      omega
    | some N =>
      rw [ruled_some hN] at hnext
      have hok : WOk m ((W.ruleK xs k).setSide (k : Int) ⟨some { N with rules := xs }, ((W.ruleK xs k).side (k : Int)).byt⟩) := by
        rw [← hnext]
        exact ruleK_ok h.ok hg (k + 1)
      have hfin : ∀ {w' : World}, St w2 (inF (rhalfH Y1 (W.ruleK xs k) R1 (k : Int))) w' (rfixH Y1 (W.ruleK xs k) (two (k : Int) (some ⟨(Y1.side (k : Int)).n, 0, none⟩) (rnodeP (Y1.side (1 - (k : Int))) ((W.ruleK xs k).side (1 - (k : Int))))) (two (k : Int) (byP (Y1.side (k : Int))) (byP (Y1.side (1 - (k : Int))))) ++ rnodeH { Y1.side (k : Int) with ra := a, rc := c } { N with rules := xs } (R1.side (k : Int))) → RDoes w0 m j w Y W R (W.ruleK xs (k + 1)) w' := fun {w'} hS => by
        rw [hnext]
        obtain ⟨Y2, R2, e2, hT2, h2⟩ := RDoes.set h1 hn (A := { Y1.side (k : Int) with ra := a, rc := c }) (s := ⟨some { N with rules := xs }, ((W.ruleK xs k).side (k : Int)).byt⟩) (B := R1.side (k : Int)) (St.turns hS) hok (Nat.le_refl _) ⟨hsd.alike, hsd.rok, fun M hM => by
          obtain rfl := Option.some.inj hM
          exact hx⟩
        exact ⟨Y2, R2, e2.trans hw1, hT1.trans hT2, h2⟩
      rw [rhalf_up hN] at hS hfin
      obtain ⟨g, hg2⟩ := two_own (hS.get 1 rfl)
      (conv => whnf)
      refine hS.ld 0 rfl (v := .slice (some ⟨g, 0, none⟩) 2 Y1.nc) (by rw [← hg2]; rfl) ?_
      (conv => whnf)
      refine IdxC.mk (by omega) (by omega) ?_
      (conv => whnf)
      refine hS.ldTwo 1 hn (by rw [← hg2]; rfl) rfl ?_
      (conv => whnf)
      refine hS.ld 0 rfl (v := .slice (some ⟨g, 0, none⟩) 2 Y1.nc) (by rw [← hg2]; rfl) ?_
      (conv => whnf)
      refine IdxC.mk (by omega) (by omega) ?_
      (conv => whnf)
      refine hS.ldTwo 1 hn (by rw [← hg2]; rfl) rfl ?_
      (conv => whnf)
      refine hS.st 6 rfl (Nat.le_of_ble_eq_true rfl) rfl (fun w3 hS => ?_)
      (conv => whnf)
      refine RngC.mk (by omega) (by omega) ?_
      (conv => whnf)
      refine LoopE.mk ⟨_, [(4, .int .i64 ((k + 1 : Nat) : Int)), (1, _), (0, _)], ?_, ⟨rfl, rfl, rfl, trivial⟩, ⟨k + 1, rfl, rfl, by omega, hfin hS⟩⟩
      omega
  · obtain rfl : k = 2 := by omega
    repeat' ((conv => whnf); first | refine RetC.mk ?_ | refine NzC.mk (by decide) ?_ | refine RngC.mk (by omega) (by omega) ?_ | refine IdxC.mk (by omega) (by omega) ?_ | refine brD (fun _ => ?_) (fun _ => ?_) | refine brND (fun _ => ?_) (fun _ => ?_) | refine brN (fun _ => ?_) (fun _ => ?_) | refine brI (fun _ => ?_) (fun _ => ?_))
    exact ⟨Y1, R1, hw1, hT1, h1⟩
end
end Go.Proofs.YtoaghhcjlfiflaaGreatDoor

namespace Go.Proofs.YtoaghhcjlfiflaaGreatDoor
open Go Ev
def bothE (e f : Ent) : Ent := ⟨e.foot ++ f.foot, fun w => e.holds w ∧ f.holds w⟩
theorem bothE_local {e f : Ent} (h : e.Local) (g : f.Local) : (bothE e f).Local := fun w w' hb hh => ⟨h w w' (fun b hb' => hb b (List.mem_append_left _ hb')) hh.1, g w w' (fun b hb' => hb b (List.mem_append_right _ hb')) hh.2⟩
section
variable {w w' w0 : World} {Y : RWorldA} {W : WorldS} {R : RBys} {m j : Nat}
def RWorldA.with (Y : RWorldA) (la : Option Addr) (lc : Nat) (vs : List NoteV) (ea : Option Addr) (ec : Nat) : RWorldA := { Y with la := la, lc := lc, vs := vs, ea := ea, ec := ec }
theorem flyK_stop {F l : List NoteS} {k : Nat} (hF : F.length ≤ 200) (h : ¬ (flyK F l k).length < 200 ∨ k = l.length) : flyK F l k = F ++ l.take (200 - F.length) := by
  rcases h with h | h
  · unfold flyK at h ⊢
    rw [List.length_append, List.length_take, List.length_take] at h
    rw [List.take_take, Nat.min_eq_left (by omega)]
  · exact flyK_end h
abbrev cellO (x : Option Addr) (y : Nat) (l : List NoteS) : Ent := ownL 59 10 encCell (.slice x (cellsOfN l).length y) (cellsOfN l)
abbrev rtickH (Y : RWorldA) (W : WorldS) (np bp : List (Option Addr)) (A : RNodeA) (N : NodeS) (B : RBy) (a : Option Addr) (c : Nat) (x : Option Addr) (y : Nat) (l : List NoteS) : List Ent :=
  [blk Y.w 123 (encRW Y W), ownL 126 1 encP (.slice Y.na 2 Y.nc) np, ownL 124 1 encP (.slice Y.ba 2 Y.bc) bp, ownL 134 5 encNV (.slice Y.la W.fly.length Y.lc) Y.vs, bothE (cellsE Y.vs W.fly) (cellO x y l), ownL 135 2 encEv (.slice Y.ea W.events.length Y.ec) W.events] ++ (rnodeH A N B ++ [ownL 134 5 encNV (.slice a (l.map (noteV x y)).length c) (l.map (noteV x y))])
def rowT (Y : RWorldA) (W : WorldS) : Nat → Prop := fun d => d ∈ (ownL 134 5 encNV (.slice Y.la W.fly.length Y.lc) Y.vs).foot
def revT (Y : RWorldA) (W : WorldS) : Nat → Prop := fun d => d ∈ (ownL 135 2 encEv (.slice Y.ea W.events.length Y.ec) W.events).foot
set_option maxHeartbeats 4000000 in
set_option maxRecDepth 10000 in
theorem rtickLoop {S : Nat → Prop} {w5 : World} {np bp : List (Option Addr)} {A : RNodeA} {N : NodeS} {B : RBy} {a x ea : Option Addr} {c y ec ll : Nat} {l : List NoteS} {ev : List (Int × Int)} {σ : Slots} {Q : Exit → Slots → World → Prop}
    (hs : Sub [(10, .int .i64 ((0 : Nat) : Int)), (8, .slice a ll c), (0, .pointer (some ⟨Y.w, 0, none⟩))] σ)
    (hS : St w S w5 (rtickH (Y.with Y.la Y.lc Y.vs ea ec) (W.with W.fly ev) np bp A N B a c x y l)) (hflen : W.fly.length ≤ 200) (hshort : l.length ≤ 2) (hll : (l.map (noteV x y)).length = ll) (hnl : ll = l.length)
    (hcell : ∀ n ∈ l, (n.claim = true ∧ n.cells = []) ∨ (n.claim = false ∧ n.cells = cellsOfN l))
    (hQ : ∀ σ w6, (∃ la lc vs, St w S w6 (rtickH (Y.with la lc vs ea ec) (W.with (W.fly ++ l.take (200 - W.fly.length)) ev) np bp A N B a c x y l)) → Q (.exit 0) σ w6) :
    LoopC Tryz.prog tab 123 (loopAt Tryz.f70 0) Q σ w5 := by
  refine loopR tabOk (fun σ w' q => ∃ (k : Nat) (la : Option Addr) (lc : Nat) (vs : List NoteV), σ = [(10, .int .i64 k), (8, .slice a ll c), (0, .pointer (some ⟨Y.w, 0, none⟩))] ∧ q = ll - k ∧ k ≤ ll ∧ St w S w' (rtickH (Y.with la lc vs ea ec) (W.with (flyK W.fly l k) ev) np bp A N B a c x y l))
    (σ' := [(10, .int .i64 ((0 : Nat) : Int)), (8, .slice a ll c), (0, .pointer (some ⟨Y.w, 0, none⟩))]) (n := ll) hs ⟨0, Y.la, Y.lc, Y.vs, rfl, rfl, Nat.zero_le _, by rw [flyK_zero]; exact hS⟩ ?_
  clear hS
  rintro _ w5 q' ⟨k, la, lc, vs, rfl, rfl, hk, hS⟩
  have hfl := flyK_le (l := l) (k := k) hflen
  (conv => whnf)
  refine brD (fun h3 => ?_) (fun h3 => ?_)
  · have hk3 : k < l.length := by omega
    obtain ⟨z, hz⟩ : ∃ z, l[k]? = some z := ⟨_, List.getElem?_eq_getElem hk3⟩
    have hzm := List.mem_of_getElem? hz
    have hxk : (l.map (noteV x y))[k]? = some (noteV x y z) := by rw [List.getElem?_map, hz]; rfl
    obtain ⟨g, o, hga⟩ : ∃ g o, a = some ⟨g, o, none⟩ := by
      obtain ⟨b0, o0, h1, _⟩ := (ownL_slc (G := fun _ => True) codNote (hS.get 13 rfl) (fun _ _ => trivial)).cells k _ hxk
      exact ⟨b0, o0, h1⟩
    subst hga
    have hboth : (bothE (cellsE vs (flyK W.fly l k)) (cellO x y l)).holds w5 := hS.get 4 rfl
    have hvl : vs.length = (flyK W.fly l k).length := hboth.1.1
    (conv => whnf)
    refine hS.ld 0 rfl rfl ?_
    (conv => whnf)
    refine brD (fun h4 => ?_) (fun h4 => ?_)
    · have hmore := flyK_more hz (Int.ofNat_lt.1 h4)
      have hr0 := hS.apartAt 0 3 rfl rfl (by decide) _ (List.mem_singleton.2 rfl)
      have hr1 : g ∉ (ownL 134 5 encNV (.slice la (flyK W.fly l k).length lc) vs).foot := hS.apartAt 13 3 rfl rfl (by decide) g (foot_own rfl)
      (conv => whnf)
      (refine drawS tabOk mixed [] (rowT (Y.with la lc vs ea ec) (W.with (flyK W.fly l k) ev)) [0, 1, 2, 3, 4, 5, 6, 7, 8, 9, 10] (by kernel_rfl) ?_; rintro w1 rfl; replace hS := hS.drew)
      have hK := hS.ref (rowT (Y.with la lc vs ea ec) (W.with (flyK W.fly l k) ev))
      (conv => whnf)
      refine hS.ldF 0 rfl rfl hr0 ?_
      (conv => whnf)
      refine IdxC.mk (by omega) (by omega) ?_
      (conv => whnf)
      refine hS.ldRowF codNote 13 (by rfl) hxk rfl hr1 ?_
      (conv => whnf)
      refine hS.litX Tryz.underlying79 (sz := 5) (by kernel_rfl) (z := .agg (encNV noNV).toArray) (by kernel_rfl) rfl rfl (cs := encNV (noteV x y z)) (by rfl) (fun b9 w3 hb9 hx hS => ?_)
      replace hK := hK.trans hx.of_no
      clear hx
      refine KeepC.mk hK ?_
      (conv => whnf)
      refine hS.appX codNote 3 (ys := [noteV x y z]) (G := fun _ => True) Tryz.underlying79 (bytes := 56) (by kernel_rfl) (z := .agg (encNV noNV).toArray) (by kernel_rfl) rfl rfl (Slc.of_blk codNote (hS.blk 14 rfl) rfl (by simp) (fun _ _ => trivial) rfl) (by show vs.length + 1 ≤ _; rw [hvl]; unfold maxLen; omega) (by show (vs.length + 1) * 56 ≤ _; rw [hvl]; omega) (fun la2 lc2 w9 hx hS => ?_)
      replace hK := hK.trans (hx.mono fun d hd => foot_own hd)
      clear hx
      refine KeepC.mk hK ?_
      clear hK
      (conv => whnf)
      refine hS.st 0 rfl (by exact Nat.le_of_ble_eq_true rfl) rfl (fun w10 hS => ?_)
      (conv => whnf)
      refine RngC.mk (by omega) (by omega) ?_
      have hb2 : (bothE (cellsE vs (flyK W.fly l k)) (cellO x y l)).holds w10 := hS.get 4 rfl
      obtain ⟨hzi, hzs⟩ := noteV_is hcell (ownL_slc (G := fun _ => True) codCell hb2.2 (fun _ _ => trivial)) hzm
      have hj := (hS.upd 4 rfl (e' := bothE (cellsE (vs ++ [noteV x y z]) (flyK W.fly l k ++ [z])) (cellO x y l)) (T := No) (Ext.refl _ _) (fun _ h => h.elim) (bothE_local cellsE_local ownL_local) ⟨cellsE_app hb2.1 (cellsE_one hzi hzs), hb2.2⟩ (fun b hb => .inl (by
        rcases List.mem_append.1 hb with hb | hb
        · obtain ⟨u, hu, hb⟩ := cellsE_foot.1 hb
          rcases List.mem_append.1 hu with hu | hu
          · exact List.mem_append_left _ (cellsE_foot.2 ⟨u, hu, hb⟩)
          · obtain rfl := List.mem_singleton.1 hu
            refine List.mem_append_right _ ?_
            have h5 := footN_own hb
            rcases hcell z hzm with ⟨h6, h7⟩ | ⟨h6, h7⟩
            · have : (noteV x y z).n = 0 := by show z.cells.length = 0; rw [h7]; rfl
              unfold footN at hb
              rw [if_pos this] at hb
              cases hb
            · have e : (noteV x y z).a = x := by show (if z.claim = true then none else x) = x; rw [h6]; rfl
              rw [e] at h5
              refine foot_own ?_
              cases x with
              | none => simp [Value.ownBlock] at h5
              | some x => simpa [Value.ownBlock] using h5
        · exact List.mem_append_right _ hb))).keep 14
      (conv => whnf)
      refine LoopE.mk ⟨_, [(10, .int .i64 ((k + 1 : Nat) : Int)), (8, _), (0, _)], ?_, ⟨rfl, rfl, rfl, trivial⟩, ⟨k + 1, la2, lc2, vs ++ [noteV x y z], rfl, rfl, by omega, ?_⟩⟩
      · omega
      · rw [hmore]
        have hl1 : (Y.with la lc vs ea ec).vs.length + 1 = (flyK W.fly l k ++ [z]).length := by rw [List.length_append, ← hvl]; rfl
        rw [hl1] at hj
        exact hj
    · have hstop := flyK_stop (l := l) (k := k) hflen (.inl fun h => h4 (Int.ofNat_lt.2 h))
      rw [hstop] at hS
      (conv => whnf)
      exact hQ _ _ ⟨la, lc, vs, hS⟩
  · have hstop := flyK_stop (l := l) (k := k) hflen (.inr (by omega))
    rw [hstop] at hS
    (conv => whnf)
    exact hQ _ _ ⟨la, lc, vs, hS⟩
theorem tick_rules (N : NodeS) (B : BytS) : (N.tick B).2.2.1.rules = N.rules := by
  have h1 : ∀ (M : NodeS) (c : Bool), (M.notes c).2.rules = M.rules := fun M c => by
    unfold NodeS.notes
    dsimp only
    split <;> rfl
  have h2 : (N.step.2.claim B).2.1.rules = N.rules := by
    unfold NodeS.claim
    repeat' split
    all_goals rfl
  unfold NodeS.tick
  split
  · rfl
  split
  · split
    · exact h2
    · exact (h1 _ (N.step.2.claim B).1.1).trans h2
  · exact h1 N.step.2 false
theorem rhalf_with {n : Int} (hn : n = 0 ∨ n = 1) (s : SideS) (B : RBy) (f : List NoteS) (e : List (Int × Int)) (la : Option Addr) (lc : Nat) (vs : List NoteV) (ea : Option Addr) (ec : Nat) :
    rhalfH (Y.with la lc vs ea ec) ((W.setSide n s).with f e) (R.setSide n B) n = rfixH (Y.with la lc vs ea ec) (W.with f e) (two n (rnodeP (Y.side n) s) (rnodeP (Y.side (1 - n)) (W.side (1 - n)))) (two n (byP (Y.side n)) (byP (Y.side (1 - n)))) ++ rsideH (Y.side n) s B := by
  rcases hn with rfl | rfl <;> rfl
theorem RDoes.with (h : RStands w0 m j w Y W R) {n : Int} (hn : n = 0 ∨ n = 1) {s : SideS} {B : RBy} {m' j' : Nat} {f : List NoteS} {e : List (Int × Int)} {la : Option Addr} {lc : Nat} {vs : List NoteV} {ea : Option Addr} {ec : Nat} (k : Turns w w' (rhalfH Y W R n) (rfixH (Y.with la lc vs ea ec) (W.with f e) (two n (rnodeP (Y.side n) s) (rnodeP (Y.side (1 - n)) (W.side (1 - n)))) (two n (byP (Y.side n)) (byP (Y.side (1 - n)))) ++ rsideH (Y.side n) s B)) (ok : WOk m' ((W.setSide n s).with f e)) (hj : j ≤ j') (hs : RSide w0 j' (Y.side n) s B) : RDoes w0 m' j' w Y W R ((W.setSide n s).with f e) w' := by
  rw [← rhalf_with hn s B f e] at k
  have hk := RTurns.world hn h.has k rfl (with_side hn s f e) (rside_set (Y := Y) (R := R) hn (Y.side n) s B).2.2.2
  refine ⟨Y.with la lc vs ea ec, R.setSide n B, rfl, hk, ?_⟩
  rcases hn with rfl | rfl
  · exact h.turns hk ok h.rules hs (h.b.le hj)
  · exact h.turns hk ok h.rules (h.a.le hj) hs
set_option maxHeartbeats 4000000 in
set_option maxRecDepth 10000 in
theorem rwtick_ok (n : Int) (h : RStands w0 m j w Y W R) (hm : m + 34 ≤ 40000000) (hj : j ≤ 50000000) : CallC Tryz.prog 70 #[.pointer (some ⟨Y.w, 0, none⟩), .int .i64 n] w fun v w' => v = .int .i64 ((W.tick n).1 : Nat) ∧ RDoes w0 (m + 34) (j + 18) w Y W R (W.tick n).2 w' := by
  refine fn_intro tabOk Tryz.func70 (by kernel_rfl) rfl Tryz.ntmps70 (Nat.le_of_ble_eq_true rfl) ?_
  (conv => whnf)
  refine (rupErr_ok n h).mono ?_
  rintro v w1 ⟨rfl, rfl⟩
  by_cases hn : n = 0 ∨ n = 1
  case neg =>
    rw [show W.tick n = (2, W) from if_pos (by omega), show W.upErr n = 2 from if_pos (by omega)]
    repeat' ((conv => whnf); first | refine RetC.mk ?_ | refine NzC.mk (by decide) ?_ | refine RngC.mk (by omega) (by omega) ?_ | refine IdxC.mk (by omega) (by omega) ?_ | refine brD (fun _ => ?_) (fun _ => ?_) | refine brND (fun _ => ?_) (fun _ => ?_) | refine brN (fun _ => ?_) (fun _ => ?_) | refine brI (fun _ => ?_) (fun _ => ?_))
    exact ⟨rfl, RDoes.same h (Nat.le_add_right _ _) (Nat.le_add_right _ _) (Ext.refl _ _)⟩
  cases hN : (W.side n).node with
  | none =>
    rw [show W.tick n = (7, W) by unfold WorldS.tick; rw [if_neg (by omega), hN], upErr_none hn hN]
    repeat' ((conv => whnf); first | refine RetC.mk ?_ | refine NzC.mk (by decide) ?_ | refine RngC.mk (by omega) (by omega) ?_ | refine IdxC.mk (by omega) (by omega) ?_ | refine brD (fun _ => ?_) (fun _ => ?_) | refine brND (fun _ => ?_) (fun _ => ?_) | refine brN (fun _ => ?_) (fun _ => ?_) | refine brI (fun _ => ?_) (fun _ => ?_))
    exact ⟨rfl, RDoes.same h (Nat.le_add_right _ _) (Nat.le_add_right _ _) (Ext.refl _ _)⟩
  | some N =>
    have hok := h.ok.tick (by omega) n
    have hwt : W.tick n = W.ticked n N (N.tick (W.side n).byt) := by unfold WorldS.tick; rw [if_neg (by omega), hN]
    rw [hwt] at hok ⊢
    rw [upErr_some hn hN]
    have hsd := h.side hn
    have hnk := ((h.ok.side hn).node N hN).1
    have hBk := (h.ok.side hn).bok
    have hflen := h.ok.fly
    have hevl := h.ok.events
    have hshort := tick_short N (W.side n).byt
    have hcell := tick_cells N (W.side n).byt
    have hrls := tick_rules N (W.side n).byt
    have hrl := hsd.rules N hN
    have hal := hsd.alike
    have hrok := hsd.rok
    clear hsd
    have hS := (h.half hn).start
    have hU : ∀ {w'} {s : SideS} {B : RBy}, WOk (m + 34) (W.setSide n s) → RSide w0 (j + 18) (Y.side n) s B → St w (inF (rhalfH Y W R n)) w' (rfixH Y W (two n (rnodeP (Y.side n) s) (rnodeP (Y.side (1 - n)) (W.side (1 - n)))) (two n (byP (Y.side n)) (byP (Y.side (1 - n)))) ++ rsideH (Y.side n) s B) → RDoes w0 (m + 34) (j + 18) w Y W R (W.setSide n s) w' := fun ok hs k => RDoes.set h hn (St.turns k) ok (Nat.le_add_right _ _) hs
    have hU2 : ∀ {w'} {s : SideS} {B : RBy} {f : List NoteS} {e : List (Int × Int)} {la : Option Addr} {lc : Nat} {vs : List NoteV} {ea : Option Addr} {ec : Nat}, WOk (m + 34) ((W.setSide n s).with f e) → RSide w0 (j + 18) (Y.side n) s B → St w (inF (rhalfH Y W R n)) w' (rfixH (Y.with la lc vs ea ec) (W.with f e) (two n (rnodeP (Y.side n) s) (rnodeP (Y.side (1 - n)) (W.side (1 - n)))) (two n (byP (Y.side n)) (byP (Y.side (1 - n)))) ++ rsideH (Y.side n) s B) → RDoes w0 (m + 34) (j + 18) w Y W R ((W.setSide n s).with f e) w' := fun ok hs k => RDoes.with h hn (St.turns k) ok (Nat.le_add_right _ _) hs
    generalize hSS : inF (rhalfH Y W R n) = S at hS hU hU2
    rw [rhalf_up hN] at hS
    clear hSS hwt
    obtain ⟨gn, hgn⟩ := two_own (hS.get 1 rfl)
    obtain ⟨gb, hgb⟩ := two_own (hS.get 2 rfl)
    generalize (W.side n).byt = B at *
    generalize hqq : rnodeP (Y.side (1 - n)) (W.side (1 - n)) = pq at *
    generalize hbq : byP (Y.side (1 - n)) = bq at *
    (conv => whnf)
    refine hS.ld 0 rfl (v := .slice (some ⟨gn, 0, none⟩) 2 Y.nc) (by rw [← hgn]; rfl) ?_
    (conv => whnf)
    refine IdxC.mk (by omega) (by omega) ?_
    (conv => whnf)
    refine hS.ldTwo 1 hn (by rw [← hgn]; rfl) rfl ?_
    (conv => whnf)
    refine hS.ld 6 rfl rfl ?_
    (conv => whnf)
    refine hS.ld 7 rfl rfl ?_
    (conv => whnf)
    have hw3 : Has _ (rnodeH (Y.side n) N (R.side n)) := Has.right (A := [_, _, _, _, _, _]) hS.has
    refine (rtick_ok hw3 hnk hBk hal hrok hj hm).mono ?_
    rintro v w3 ⟨a, c, x, y, R', rfl, hAl, hRk, hk⟩
    replace hS := St.callAt (A := [_, _, _, _, _, _]) (B := []) hS hk
    clear hk hw3
    generalize N.tick B = T at *
    obtain ⟨e, l, N', B'⟩ := T
    dsimp only at hAl hRk hshort hcell hrls hok hS ⊢
    have hnl : (l.map (noteV x y)).length = l.length := List.length_map _
    replace hS : St w S w3 (rfixH Y W (two n (some ⟨(Y.side n).n, 0, none⟩) pq) (two n (byP (Y.side n)) bq) ++ (rnodeH (Y.side n) N' R' ++ rnoteH a c x y l)) := hS
    generalize hll : (l.map (noteV x y)).length = ll at hnl
    have hoffE := hAl.off
    have hpl : W.ticked n N (e, l, N', B') = if B'.off = true then (e, W.setSide n ⟨none, B'⟩) else if e ≠ 0 then (e, W.setSide n ⟨some N', B'⟩) else
      (0, (W.setSide n ⟨some N', B'⟩).with (W.fly ++ l.take (200 - W.fly.length)) (if N.role.active = false ∧ N'.role.active = true ∧ W.events.length < 1000 then W.events ++ [(n, N'.role.epoch)] else W.events)) := rfl
    rw [hpl] at hok ⊢
    clear hpl
    have hside : RSide w0 (j + 18) (Y.side n) ⟨some N', B'⟩ R' := ⟨hAl, hRk, fun M hM => by
      obtain rfl := Option.some.inj hM
      rw [hrls]
      exact hrl⟩
    (conv => whnf)
    refine hS.ld 0 rfl (v := .slice (some ⟨gb, 0, none⟩) 2 Y.bc) (by rw [← hgb]; rfl) ?_
    (conv => whnf)
    refine IdxC.mk (by omega) (by omega) ?_
    (conv => whnf)
    refine hS.ldTwo 2 hn (by rw [← hgb]; rfl) rfl ?_
    (conv => whnf)
    refine hS.ld 12 rfl (v := .bool B'.off) (by rw [← hoffE]; rfl) ?_
    cases hoff : B'.off
    case true =>
      rw [hoff, if_pos rfl] at hok
      rw [if_pos rfl]
      (conv => whnf)
      refine hS.ld 0 rfl (v := .slice (some ⟨gn, 0, none⟩) 2 Y.nc) (by rw [← hgn]; rfl) ?_
      (conv => whnf)
      refine IdxC.mk (by omega) (by omega) ?_
      (conv => whnf)
      refine hS.stTwo (r := none) 1 hn (by rw [← hgn]; rfl) (by omega) (fun w4 hS => ?_)
      repeat' ((conv => whnf); first | refine RetC.mk ?_ | refine NzC.mk (by decide) ?_ | refine RngC.mk (by omega) (by omega) ?_ | refine IdxC.mk (by omega) (by omega) ?_ | refine brD (fun _ => ?_) (fun _ => ?_) | refine brND (fun _ => ?_) (fun _ => ?_) | refine brN (fun _ => ?_) (fun _ => ?_) | refine brI (fun _ => ?_) (fun _ => ?_))
      refine ⟨rfl, hU (s := ⟨none, B'⟩) (B := R') hok ⟨hAl, hRk, fun M hM => by cases hM⟩ ?_⟩
      have hS2 := hS.sel [0, 1, 2, 3, 4, 5, 12] (by decide)
      rw [← hgn] at hS2
      exact hS2
    rw [hoff, if_neg (by decide)] at hok
    rw [if_neg (by decide)]
    cases e with
    | succ i =>
      rw [if_pos (Nat.succ_ne_zero i)] at hok ⊢
      (conv => whnf)
      refine brD (fun _ => ?_) (fun h => absurd (show ((i + 1 : Nat) : Int) > 0 by omega) h)
      repeat' ((conv => whnf); first | refine RetC.mk ?_ | refine NzC.mk (by decide) ?_ | refine RngC.mk (by omega) (by omega) ?_ | refine IdxC.mk (by omega) (by omega) ?_ | refine brD (fun _ => ?_) (fun _ => ?_) | refine brND (fun _ => ?_) (fun _ => ?_) | refine brN (fun _ => ?_) (fun _ => ?_) | refine brI (fun _ => ?_) (fun _ => ?_))
      exact ⟨rfl, hU (s := ⟨some N', B'⟩) (B := R') hok hside (hS.keep 13)⟩
    | zero =>
      rw [if_neg (fun h => h rfl)] at hok ⊢
      have hjn := ((hS.sel [4, 14, 0, 1, 2, 3, 5, 6, 7, 8, 9, 10, 11, 12, 13] (by decide)).join (g := bothE (cellsE Y.vs W.fly) (cellO x y l)) (bothE_local cellsE_local ownL_local) ⟨hS.get 4 rfl, hS.get 14 rfl⟩ (fun b hb => List.mem_append.1 hb)).sel [1, 2, 3, 4, 0, 5, 6, 7, 8, 9, 10, 11, 12, 13] (by decide)
      replace hS : St w S w3 (rtickH (Y.with Y.la Y.lc Y.vs Y.ea Y.ec) (W.with W.fly W.events) (two n (some ⟨(Y.side n).n, 0, none⟩) pq) (two n (byP (Y.side n)) bq) (Y.side n) N' R' a c x y l) := hjn
      clear hjn hU
      have hev0 : ∀ {b1 b2 : Bool}, N.role.active = b1 → N'.role.active = b2 → (b1 = true ∨ b2 = false ∨ ¬ W.events.length < 1000) → (if N.role.active = false ∧ N'.role.active = true ∧ W.events.length < 1000 then W.events ++ [(n, N'.role.epoch)] else W.events) = W.events := fun h1 h2 h3 => if_neg (by
        rw [h1, h2]
        rintro ⟨rfl, rfl, h4⟩
        rcases h3 with h3 | h3 | h3
        · cases h3
        · cases h3
        · exact h3 h4)
      have hev1 : N.role.active = false → N'.role.active = true → W.events.length < 1000 → (if N.role.active = false ∧ N'.role.active = true ∧ W.events.length < 1000 then W.events ++ [(n, N'.role.epoch)] else W.events) = W.events ++ [(n, N'.role.epoch)] := fun h1 h2 h3 => if_pos ⟨h1, h2, h3⟩
      generalize hev : (if N.role.active = false ∧ N'.role.active = true ∧ W.events.length < 1000 then W.events ++ [(n, N'.role.epoch)] else W.events) = ev at hok ⊢
      cases ha : N.role.active
      · (conv => whnf)
        refine hS.ld 6 rfl rfl ?_
        (conv => whnf)
        refine hS.ld 7 rfl rfl ?_
        cases ha2 : N'.role.active
        · rw [← hev.symm.trans (hev0 ha ha2 (.inr (.inl rfl)))] at hS
          generalize Y.ea = ea at hS
          generalize Y.ec = ec at hS
          (conv => whnf)
          refine rtickLoop (ea := ea) (ec := ec) (ev := ev) ⟨rfl, rfl, rfl, trivial⟩ hS hflen hshort hll hnl hcell ?_
          rintro σ w6 ⟨la, lc, vs, hS⟩
          have hb2 : (bothE (cellsE vs (W.fly ++ l.take (200 - W.fly.length))) (cellO x y l)).holds w6 := hS.get 4 rfl
          replace hS := hS.upd 4 rfl (e' := cellsE vs (W.fly ++ l.take (200 - W.fly.length))) (T := No) (Ext.refl _ _) (fun _ h => h.elim) cellsE_local hb2.1 (fun b hb => .inl (List.mem_append_left _ hb))
          repeat' ((conv => whnf); first | refine RetC.mk ?_ | refine NzC.mk (by decide) ?_ | refine RngC.mk (by omega) (by omega) ?_ | refine IdxC.mk (by omega) (by omega) ?_ | refine brD (fun _ => ?_) (fun _ => ?_) | refine brND (fun _ => ?_) (fun _ => ?_) | refine brN (fun _ => ?_) (fun _ => ?_) | refine brI (fun _ => ?_) (fun _ => ?_))
          exact ⟨rfl, hU2 (s := ⟨some N', B'⟩) (B := R') (la := la) (lc := lc) (vs := vs) (ea := ea) (ec := ec) hok hside (hS.keep 13)⟩
        · (conv => whnf)
          refine hS.ld 0 rfl rfl ?_
          (conv => whnf)
          refine brD (fun h5 => ?_) (fun h5 => ?_)
          · have hv := hev.symm.trans (hev1 ha ha2 (by exact Int.ofNat_lt.1 h5))
            have h60 : Y.w ∉ (ownL 135 2 encEv (.slice Y.ea W.events.length Y.ec) W.events).foot := hS.apartAt 0 5 rfl rfl (by decide) _ (List.mem_singleton.2 rfl)
            have h66 : (Y.side n).n ∉ (ownL 135 2 encEv (.slice Y.ea W.events.length Y.ec) W.events).foot := hS.apartAt 6 5 rfl rfl (by decide) _ (List.mem_singleton.2 rfl)
            have h67 : (Y.side n).r ∉ (ownL 135 2 encEv (.slice Y.ea W.events.length Y.ec) W.events).foot := hS.apartAt 7 5 rfl rfl (by decide) _ (List.mem_singleton.2 rfl)
            (conv => whnf)
            (refine drawS tabOk mixed [] (revT Y W) [0, 1, 2, 3, 4, 5, 6, 7, 8, 9, 10, 11, 12, 13, 14, 15] (by kernel_rfl) ?_; rintro w1 rfl; replace hS := hS.drew)
            have hK := hS.ref (revT Y W)
            (conv => whnf)
            refine hS.ldF 0 rfl rfl h60 ?_
            (conv => whnf)
            refine hS.ldF 6 rfl rfl h66 ?_
            (conv => whnf)
            refine hS.ldF 7 rfl rfl h67 ?_
            (conv => whnf)
            refine hS.litX Tryz.underlying84 (sz := 2) (by kernel_rfl) (z := .agg (encEv (0, 0)).toArray) (by kernel_rfl) rfl rfl (cs := encEv (n, N'.role.epoch)) (by rfl) (fun b9 w8 hb9 hx hS => ?_)
            replace hK := hK.trans hx.of_no
            clear hx
            refine KeepC.mk hK ?_
            (conv => whnf)
            refine hS.appX codEv 5 (ys := [(n, N'.role.epoch)]) (G := fun _ => True) Tryz.underlying84 (bytes := 16) (by kernel_rfl) (z := .agg (encEv (0, 0)).toArray) (by kernel_rfl) rfl rfl (Slc.of_blk codEv (hS.blk 14 rfl) rfl (by simp) (fun _ _ => trivial) rfl) (by show W.events.length + 1 ≤ _; unfold maxLen; omega) (by show (W.events.length + 1) * 16 ≤ _; omega) (fun ea ec w9 hx hS => ?_)
            replace hK := hK.trans (hx.mono fun d hd => foot_own hd)
            clear hx
            refine KeepC.mk hK ?_
            clear hK
            (conv => whnf)
            refine hS.st 0 rfl (by exact Nat.le_of_ble_eq_true rfl) rfl (fun w10 hS => ?_)
            replace hS := (hS.keep 14).as (H' := rtickH (Y.with Y.la Y.lc Y.vs ea ec) (W.with W.fly (W.events ++ [(n, N'.role.epoch)])) (two n (some ⟨(Y.side n).n, 0, none⟩) pq) (two n (byP (Y.side n)) bq) (Y.side n) N' R' a c x y l) (by
              rw [show (W.with W.fly W.events).events.length + 1 = (W.events ++ [(n, N'.role.epoch)]).length by rw [List.length_append]; rfl]
              rfl)
            rw [← hv] at hS
            (conv => whnf)
            refine rtickLoop (ea := ea) (ec := ec) (ev := ev) ⟨rfl, rfl, rfl, trivial⟩ hS hflen hshort hll hnl hcell ?_
            rintro σ w6 ⟨la, lc, vs, hS⟩
            have hb2 : (bothE (cellsE vs (W.fly ++ l.take (200 - W.fly.length))) (cellO x y l)).holds w6 := hS.get 4 rfl
            replace hS := hS.upd 4 rfl (e' := cellsE vs (W.fly ++ l.take (200 - W.fly.length))) (T := No) (Ext.refl _ _) (fun _ h => h.elim) cellsE_local hb2.1 (fun b hb => .inl (List.mem_append_left _ hb))
            repeat' ((conv => whnf); first | refine RetC.mk ?_ | refine NzC.mk (by decide) ?_ | refine RngC.mk (by omega) (by omega) ?_ | refine IdxC.mk (by omega) (by omega) ?_ | refine brD (fun _ => ?_) (fun _ => ?_) | refine brND (fun _ => ?_) (fun _ => ?_) | refine brN (fun _ => ?_) (fun _ => ?_) | refine brI (fun _ => ?_) (fun _ => ?_))
            exact ⟨rfl, hU2 (s := ⟨some N', B'⟩) (B := R') (la := la) (lc := lc) (vs := vs) (ea := ea) (ec := ec) hok hside (hS.keep 13)⟩
          · rw [← hev.symm.trans (hev0 ha ha2 (.inr (.inr fun h => h5 (by exact Int.ofNat_lt.2 h))))] at hS
            generalize Y.ea = ea at hS
            generalize Y.ec = ec at hS
            (conv => whnf)
            refine rtickLoop (ea := ea) (ec := ec) (ev := ev) ⟨rfl, rfl, rfl, trivial⟩ hS hflen hshort hll hnl hcell ?_
            rintro σ w6 ⟨la, lc, vs, hS⟩
            have hb2 : (bothE (cellsE vs (W.fly ++ l.take (200 - W.fly.length))) (cellO x y l)).holds w6 := hS.get 4 rfl
            replace hS := hS.upd 4 rfl (e' := cellsE vs (W.fly ++ l.take (200 - W.fly.length))) (T := No) (Ext.refl _ _) (fun _ h => h.elim) cellsE_local hb2.1 (fun b hb => .inl (List.mem_append_left _ hb))
            repeat' ((conv => whnf); first | refine RetC.mk ?_ | refine NzC.mk (by decide) ?_ | refine RngC.mk (by omega) (by omega) ?_ | refine IdxC.mk (by omega) (by omega) ?_ | refine brD (fun _ => ?_) (fun _ => ?_) | refine brND (fun _ => ?_) (fun _ => ?_) | refine brN (fun _ => ?_) (fun _ => ?_) | refine brI (fun _ => ?_) (fun _ => ?_))
            exact ⟨rfl, hU2 (s := ⟨some N', B'⟩) (B := R') (la := la) (lc := lc) (vs := vs) (ea := ea) (ec := ec) hok hside (hS.keep 13)⟩
      · rw [← hev.symm.trans (hev0 ha rfl (.inl rfl))] at hS
        generalize Y.ea = ea at hS
        generalize Y.ec = ec at hS
        (conv => whnf)
        refine rtickLoop (ea := ea) (ec := ec) (ev := ev) ⟨rfl, rfl, rfl, trivial⟩ hS hflen hshort hll hnl hcell ?_
        rintro σ w6 ⟨la, lc, vs, hS⟩
        have hb2 : (bothE (cellsE vs (W.fly ++ l.take (200 - W.fly.length))) (cellO x y l)).holds w6 := hS.get 4 rfl
        replace hS := hS.upd 4 rfl (e' := cellsE vs (W.fly ++ l.take (200 - W.fly.length))) (T := No) (Ext.refl _ _) (fun _ h => h.elim) cellsE_local hb2.1 (fun b hb => .inl (List.mem_append_left _ hb))
        repeat' ((conv => whnf); first | refine RetC.mk ?_ | refine NzC.mk (by decide) ?_ | refine RngC.mk (by omega) (by omega) ?_ | refine IdxC.mk (by omega) (by omega) ?_ | refine brD (fun _ => ?_) (fun _ => ?_) | refine brND (fun _ => ?_) (fun _ => ?_) | refine brN (fun _ => ?_) (fun _ => ?_) | refine brI (fun _ => ?_) (fun _ => ?_))
        exact ⟨rfl, hU2 (s := ⟨some N', B'⟩) (B := R') (la := la) (lc := lc) (vs := vs) (ea := ea) (ec := ec) hok hside (hS.keep 13)⟩
end
end Go.Proofs.YtoaghhcjlfiflaaGreatDoor

namespace Go.Proofs.YtoaghhcjlfiflaaGreatDoor
open Go Ev
section
variable {w w' w0 : World} {Y : RWorldA} {W : WorldS} {R : RBys} {m j : Nat}
def rby0 : RBy := ⟨by0.data, false, 0, false⟩
theorem rnewBytes_ok (w : World) : CallC Tryz.prog 68 #[] w fun v w' => ∃ b, v = .pointer (some ⟨b, 0, none⟩) ∧ w.heap.size ≤ b ∧ Ext No w w' ∧ Blk w' b 171 (encRB rby0) := by
  refine fn_intro tabOk Tryz.func68 (by kernel_rfl) rfl Tryz.ntmps68 (Nat.le_of_ble_eq_true rfl) ?_
  have hS := St.start w No
  (conv => whnf)
  refine hS.mkSlice (n := 64) Tryz.underlying169 (sz := 1) (bytes := 1) (by kernel_rfl) (z := .int .u8 0) (by kernel_rfl) (by decide) (by decide) (by decide) (enc := encU) (xs := List.replicate 64 0) (by simp) (by rw [show (Value.int .u8 0).cells = #[.int .u8 0] from rfl, made_rep, Nat.mul_one]; exact rep_flat 64) (fun g w1 hg hS => ?_)
  (conv => whnf)
  obtain ⟨b0, o0, h1, hc⟩ : ∃ b0 o0, some (⟨g, 0, none⟩ : Addr) = some ⟨b0, o0, none⟩ ∧ CellsAt w1 b0 o0 ((List.replicate 64 (0 : UInt8)).flatMap encU) := by
    refine ⟨g, 0, rfl, fun i v hi => ?_⟩
    have := (hS.get 0 rfl : (ownL 5 1 encU (.slice (some ⟨g, 0, none⟩) 64 64) (List.replicate 64 (0 : UInt8))).holds w1)
    rcases own_blk this with ⟨h, _⟩ | ⟨g2, cur, h, _, hb, _, _, hl, ht⟩
    · cases h
    · simp only [Option.some.injEq, Addr.mk.injEq] at h
      obtain ⟨rfl, _⟩ := h
      rw [hb.cell, Nat.zero_add]
      rw [← ht, List.getElem?_take] at hi
      split at hi
      · exact hi
      · cases hi
  simp only [Option.some.injEq, Addr.mk.injEq] at h1
  obtain ⟨rfl, rfl, _⟩ := h1
  refine strC Tryz.underlying169 Tryz.underlying5 Tryz.underlying9 hc (by simp) ?_
  (conv => whnf)
  refine hS.new (fun b w2 hb hS => ?_)
  repeat' ((conv => whnf); first | refine RetC.mk ?_ | refine NzC.mk (by decide) ?_ | refine RngC.mk (by omega) (by omega) ?_ | refine IdxC.mk (by omega) (by omega) ?_ | refine brD (fun _ => ?_) (fun _ => ?_) | refine brND (fun _ => ?_) (fun _ => ?_) | refine brN (fun _ => ?_) (fun _ => ?_) | refine brI (fun _ => ?_) (fun _ => ?_))
  exact ⟨b, rfl, hb, hS.ext, hS.blk 1 rfl⟩
def rbornCells (na : Option Addr) (nn nc : Nat) (ba : Option Addr) (bn bc : Nat) (a : Option Addr) (n c : Nat) : List Value := [.slice na nn nc, .slice ba bn bc, .slice a n c, .slice none 0 0, .int .i64 (-1), .int .i64 0, .slice none 0 0]
def rmadeH (bw : Nat) (a : Option Addr) (c : Nat) (xs : List RuleS) (na : Option Addr) (nc : Nat) (ba : Option Addr) (bc : Nat) (N : Int → NodeS) (A A' : RNodeA) (R R' : RBy) : Nat → List Ent
  | 0 => [blk bw 123 (rbornCells none 0 0 none 0 0 a xs.length c), ownL 126 1 encP (.slice none 0 0) [], ownL 124 1 encP (.slice none 0 0) []]
  | 1 => [blk bw 123 (rbornCells na 1 nc ba 1 bc a xs.length c), ownL 126 1 encP (.slice na 1 nc) [some ⟨A.n, 0, none⟩], ownL 124 1 encP (.slice ba 1 bc) [byP A]] ++ rnodeH A (N 0) R
  | _ => [blk bw 123 (rbornCells na 2 nc ba 2 bc a xs.length c), ownL 126 1 encP (.slice na 2 nc) [some ⟨A.n, 0, none⟩, some ⟨A'.n, 0, none⟩], ownL 124 1 encP (.slice ba 2 bc) [byP A, byP A']] ++ (rnodeH A (N 0) R ++ rnodeH A' (N 1) R')
structure RMade (xs : List RuleS) (a : Option Addr) (c : Nat) (B : BytS) (A : RNodeA) (R : RBy) : Prop where
  alike : Alike R B
  rok : ROk R 18
  ra : A.ra = a
theorem rnewWorld_ok {a : Option Addr} {c : Nat} {xs : List RuleS} (hx : RulesAt w0 a xs.length xs) (h0 : (faultL xs).1 = 0) (hext : Ext No w0 w) :
    CallC Tryz.prog 30 #[.slice a xs.length c] w fun v w' => ∃ Y R, v = .pointer (some ⟨Y.w, 0, none⟩) ∧ Ext No w w' ∧ RStands w0 0 18 w' Y (.born xs) R ∧ ∀ b, inF (rworldH Y (.born xs) R) b → w.heap.size ≤ b := by
  obtain ⟨hb0, hb1, hok⟩ := WOk.born (fault_good.1 h0)
  have hby : BOk by0 := ⟨by simp [by0], by decide, by decide⟩
  have hAl : Alike rby0 by0 := ⟨rfl, rfl, (fun h => by cases h), fun _ => rfl⟩
  have hRk : ROk rby0 0 := ⟨by simp [rby0, by0], (fun h => by cases h), by simp [rby0], by show (0 : Int) ≤ 9223372036854775807; decide⟩
  have hrr : (newN 0 by0 xs).2.1.rules = xs ∧ (newN 1 by0 xs).2.1.rules = xs := ⟨rfl, rfl⟩
  refine fn_intro tabOk Tryz.func30 (by kernel_rfl) rfl Tryz.ntmps30 (Nat.le_of_ble_eq_true rfl) ?_
  have hS := St.start w No
  (conv => whnf)
  refine hS.new (fun bw w1 hbw hS => ?_)
  replace hS := (hS.addNil 126 1 encP).addNil 124 1 encP
  have noA : RNodeA := ⟨0, 0, 0, 0, 0, 0, 0, 0, 0, 0, 0, 0, 0, none, 0⟩
  replace hS : St w No w1 (rmadeH bw a c xs none 0 none 0 (fun i => (newN i by0 xs).2.1) noA noA rby0 rby0 0) := hS
  generalize hNf : (fun i => (newN i by0 xs).2.1) = N at hS
  generalize hBf : (fun i => (newN i by0 xs).2.2) = B
  have e0 : N 0 = (newN 0 by0 xs).2.1 ∧ B 0 = (newN 0 by0 xs).2.2 ∧ N 1 = (newN 1 by0 xs).2.1 ∧ B 1 = (newN 1 by0 xs).2.2 := by subst hNf hBf; exact ⟨rfl, rfl, rfl, rfl⟩
  have hbn : WorldS.born xs = ⟨⟨some (N 0), B 0⟩, ⟨some (N 1), B 1⟩, xs, [], -1, 0, []⟩ := by subst hNf hBf; rfl
  rw [hbn] at hok ⊢
  rw [← e0.1, ← e0.2.2.1] at hrr
  clear hNf hBf hbn
  (conv => whnf)
  refine loopR tabOk (fun σ w' q' => ∃ (k : Nat) (na : Option Addr) (nc : Nat) (ba : Option Addr) (bc : Nat) (A A' : RNodeA) (R R' : RBy), σ = [(4, .int .i64 k), (3, .pointer (some ⟨bw, 0, none⟩)), (0, .slice a xs.length c)] ∧ q' = 2 - k ∧ k ≤ 2 ∧ St w No w' (rmadeH bw a c xs na nc ba bc N A A' R R' k) ∧ (1 ≤ k → RMade xs a c (B 0) A R) ∧ (2 ≤ k → RMade xs a c (B 1) A' R'))
    (σ' := [(4, .int .i64 ((0 : Nat) : Int)), (3, .pointer (some ⟨bw, 0, none⟩)), (0, .slice a xs.length c)]) (n := 2) ⟨rfl, rfl, rfl, trivial⟩ ⟨0, none, 0, none, 0, noA, noA, rby0, rby0, rfl, rfl, Nat.zero_le _, hS, fun h => by omega, fun h => by omega⟩ ?_
  clear hS
  rintro _ w4 q' ⟨k, na0, nc0, ba0, bc0, A0, A1, R0, R1, rfl, rfl, hk, hS, hm0, hm1⟩
  (conv => whnf)
  refine brD (fun h3 => ?_) (fun h3 => ?_)
  · have hk2 : k = 0 ∨ k = 1 := by omega
    rcases hk2 with rfl | rfl
    · have hsz := hS.ext.size
      (conv => whnf)
      refine (rnewBytes_ok _).mono ?_
      rintro v w5 ⟨bb, rfl, hbb, hxb, hB⟩
      replace hS := hS.made hxb (blk_local _ _ _) hB (by simp [blk]; exact ⟨hbb, hB.lt⟩)
      clear hxb hB
      (conv => whnf)
      refine (rnew_ok (B := by0) (a := a) (c := c) (xs := xs) 0 (.inl rfl) (hS.blk 3 rfl) hAl hby hRk (by decide)).mono ?_
      rintro v w6 ⟨R', hA', hR', hcase⟩
      rcases hcase with ⟨_, A, hAb, hAr, hAc, rfl, hk6⟩ | ⟨h9, _⟩
      case inr => exact absurd hb0 h9
      rw [← e0.1] at hk6
      rw [← e0.2.1] at hA'
      have hS2 := St.callAt (A := [_, _, _]) (B := []) hS hk6
      subst hAb
      (conv => whnf)
      refine hS2.ld 0 rfl rfl ?_
      (conv => whnf)
      refine hS2.lit Tryz.underlying121 (sz := 1) (by kernel_rfl) (z := .pointer none) (by kernel_rfl) rfl rfl (cs := encP (some ⟨A.b, 0, none⟩)) (by rfl) (fun b9 w7 hb9 hS => ?_)
      (conv => whnf)
      refine hS.appS codP 2 (ys := [some ⟨A.b, 0, none⟩]) (G := fun _ => True) Tryz.underlying121 (bytes := 8) (by kernel_rfl) (z := .pointer none) (by kernel_rfl) rfl rfl (Slc.of_blk codP (hS.blk 10 rfl) rfl (by simp) (fun _ _ => trivial) rfl) (by unfold maxLen; simp) (by simp) (fun ba bc w8 hS => ?_)
      (conv => whnf)
      refine hS.st 0 rfl (by exact Nat.le_of_ble_eq_true rfl) rfl (fun w9 hS => ?_)
      (conv => whnf)
      refine hS.ld 0 rfl rfl ?_
      (conv => whnf)
      refine hS.lit Tryz.underlying120 (sz := 1) (by kernel_rfl) (z := .pointer none) (by kernel_rfl) rfl rfl (cs := encP (some ⟨A.n, 0, none⟩)) (by rfl) (fun b10 w10 hb10 hS => ?_)
      (conv => whnf)
      refine hS.appS codP 1 (ys := [some ⟨A.n, 0, none⟩]) (G := fun _ => True) Tryz.underlying120 (bytes := 8) (by kernel_rfl) (z := .pointer none) (by kernel_rfl) rfl rfl (Slc.of_blk codP (hS.blk 11 rfl) rfl (by simp) (fun _ _ => trivial) rfl) (by unfold maxLen; simp) (by simp) (fun na nc w11 hS => ?_)
      (conv => whnf)
      refine hS.st 0 rfl (by exact Nat.le_of_ble_eq_true rfl) rfl (fun w12 hS => ?_)
      (conv => whnf)
      refine RngC.mk (by omega) (by omega) ?_
      (conv => whnf)
      refine LoopE.mk ⟨_, [(4, .int .i64 ((1 : Nat) : Int)), (3, _), (0, _)], ?_, ⟨rfl, rfl, rfl, trivial⟩, ⟨1, na, nc, ba, bc, A, A1, R', R1, rfl, rfl, by omega, ?_⟩⟩
      · omega
      · exact ⟨hS.sel [0, 1, 2, 3, 4, 5, 6, 7, 8, 9] (by decide), fun _ => ⟨hA', hR', hAr⟩, fun h => by omega⟩
    · have hsz := hS.ext.size
      (conv => whnf)
      refine (rnewBytes_ok _).mono ?_
      rintro v w5 ⟨bb, rfl, hbb, hxb, hB⟩
      replace hS := hS.made hxb (blk_local _ _ _) hB (by simp [blk]; exact ⟨hbb, hB.lt⟩)
      clear hxb hB
      (conv => whnf)
      refine (rnew_ok (B := by0) (a := a) (c := c) (xs := xs) 1 (.inr rfl) (hS.blk 10 rfl) hAl hby hRk (by decide)).mono ?_
      rintro v w6 ⟨R', hA', hR', hcase⟩
      rcases hcase with ⟨_, A, hAb, hAr, hAc, rfl, hk6⟩ | ⟨h9, _⟩
      case inr => exact absurd hb1 h9
      rw [← e0.2.2.1] at hk6
      rw [← e0.2.2.2] at hA'
      have hS2 := St.callAt (A := [_, _, _, _, _, _, _, _, _, _]) (B := []) hS hk6
      subst hAb
      (conv => whnf)
      refine hS2.ld 0 rfl rfl ?_
      (conv => whnf)
      refine hS2.lit Tryz.underlying121 (sz := 1) (by kernel_rfl) (z := .pointer none) (by kernel_rfl) rfl rfl (cs := encP (some ⟨A.b, 0, none⟩)) (by rfl) (fun b9 w7 hb9 hS => ?_)
      (conv => whnf)
      refine hS.appS codP 2 (ys := [some ⟨A.b, 0, none⟩]) (G := fun _ => True) Tryz.underlying121 (bytes := 8) (by kernel_rfl) (z := .pointer none) (by kernel_rfl) rfl rfl (Slc.of_blk codP (hS.blk 17 rfl) rfl (by simp) (fun _ _ => trivial) rfl) (by unfold maxLen; simp) (by simp) (fun ba bc w8 hS => ?_)
      (conv => whnf)
      refine hS.st 0 rfl (by exact Nat.le_of_ble_eq_true rfl) rfl (fun w9 hS => ?_)
      (conv => whnf)
      refine hS.ld 0 rfl rfl ?_
      (conv => whnf)
      refine hS.lit Tryz.underlying120 (sz := 1) (by kernel_rfl) (z := .pointer none) (by kernel_rfl) rfl rfl (cs := encP (some ⟨A.n, 0, none⟩)) (by rfl) (fun b10 w10 hb10 hS => ?_)
      (conv => whnf)
      refine hS.appS codP 1 (ys := [some ⟨A.n, 0, none⟩]) (G := fun _ => True) Tryz.underlying120 (bytes := 8) (by kernel_rfl) (z := .pointer none) (by kernel_rfl) rfl rfl (Slc.of_blk codP (hS.blk 18 rfl) rfl (by simp) (fun _ _ => trivial) rfl) (by unfold maxLen; simp) (by simp) (fun na nc w11 hS => ?_)
      (conv => whnf)
      refine hS.st 0 rfl (by exact Nat.le_of_ble_eq_true rfl) rfl (fun w12 hS => ?_)
      (conv => whnf)
      refine RngC.mk (by omega) (by omega) ?_
      (conv => whnf)
      refine LoopE.mk ⟨_, [(4, .int .i64 ((2 : Nat) : Int)), (3, _), (0, _)], ?_, ⟨rfl, rfl, rfl, trivial⟩, ⟨2, na, nc, ba, bc, A0, A, R0, R', rfl, rfl, by omega, ?_⟩⟩
      · omega
      · exact ⟨hS.sel [0, 1, 2, 3, 4, 5, 6, 7, 8, 9, 10, 11, 12, 13, 14, 15, 16] (by decide), fun _ => hm0 (by decide), fun _ => ⟨hA', hR', hAr⟩⟩
  · obtain rfl : k = 2 := by omega
    have g0 := hm0 (by decide)
    have g1 := hm1 (by decide)
    have hS2 := (((hS.addNil 134 5 encNV).add (e := cellsE [] []) cellsE_local (cellsE_nil _) (fun b hb => by simp [cellsE] at hb) (fun f _ b _ hb => by simp [cellsE] at hb)).addNil 135 2 encEv).sel [0, 1, 2, 17, 18, 19, 3, 4, 5, 6, 7, 8, 9, 10, 11, 12, 13, 14, 15, 16] (by decide)
    replace hS2 : St w No w4 (rworldH ⟨bw, na0, nc0, ba0, bc0, a, c, none, 0, [], none, 0, A0, A1⟩ ⟨⟨some (N 0), B 0⟩, ⟨some (N 1), B 1⟩, xs, [], -1, 0, []⟩ ⟨R0, R1⟩) := hS2
    have hfr : ∀ b, inF (rworldH ⟨bw, na0, nc0, ba0, bc0, a, c, none, 0, [], none, 0, A0, A1⟩ ⟨⟨some (N 0), B 0⟩, ⟨some (N 1), B 1⟩, xs, [], -1, 0, []⟩ ⟨R0, R1⟩) b → w.heap.size ≤ b := fun b ⟨e, he, hb⟩ => (hS2.may e he b hb).1.elim (fun h => h.elim) id
    repeat' ((conv => whnf); first | refine RetC.mk ?_ | refine NzC.mk (by decide) ?_ | refine RngC.mk (by omega) (by omega) ?_ | refine IdxC.mk (by omega) (by omega) ?_ | refine brD (fun _ => ?_) (fun _ => ?_) | refine brND (fun _ => ?_) (fun _ => ?_) | refine brN (fun _ => ?_) (fun _ => ?_) | refine brI (fun _ => ?_) (fun _ => ?_))
    refine ⟨⟨bw, na0, nc0, ba0, bc0, a, c, none, 0, [], none, 0, A0, A1⟩, ⟨R0, R1⟩, rfl, hS2.ext, ⟨hS2.has, hok, hext.trans hS2.ext, fun b hb => Nat.le_trans hext.size (hfr b hb), hx, ⟨g0.alike, g0.rok, fun M hM => ?_⟩, ⟨g1.alike, g1.rok, fun M hM => ?_⟩⟩, hfr⟩
    · obtain rfl := Option.some.inj hM
      rw [hrr.1]
      show RulesAt w0 A0.ra xs.length xs
      rw [g0.ra]
      exact hx
    · obtain rfl := Option.some.inj hM
      rw [hrr.2]
      show RulesAt w0 A1.ra xs.length xs
      rw [g1.ra]
      exact hx
end
end Go.Proofs.YtoaghhcjlfiflaaGreatDoor

namespace Go.Proofs.YtoaghhcjlfiflaaGreatDoor
open Go Ev
section
variable {w w' w0 : World} {Y : RWorldA} {W : WorldS} {R : RBys} {m j : Nat}
end
end Go.Proofs.YtoaghhcjlfiflaaGreatDoor

namespace Go.Proofs.YtoaghhcjlfiflaaGreatDoor
open Go Ev
section
variable {w w' w0 : World} {Y : RWorldA} {W : WorldS} {R : RBys} {m j : Nat}
end
end Go.Proofs.YtoaghhcjlfiflaaGreatDoor

namespace Go.Proofs.YtoaghhcjlfiflaaGreatDoor
open Go Ev
section
variable {w w' w0 : World} {Y : RWorldA} {W : WorldS} {R : RBys} {m j : Nat}
end
end Go.Proofs.YtoaghhcjlfiflaaGreatDoor

namespace Go.Proofs.YtoaghhcjlfiflaaGreatDoor
open Go Ev
section
variable {w : World}
theorem asNode_ok {w0 : World} {S : Nat → Prop} {m : Nat} {A : NodeA} {A' : RNodeA} {N : NodeS} {R : RBy} {B : BytS} (hS0 : St w0 S w (nodeB A N B ++ rnodeH A' N R)) (hO : NOk m N) :
    CallC Tryz.prog 79 #[.pointer (some ⟨A.n, 0, none⟩), .pointer (some ⟨A'.n, 0, none⟩)] w fun v w' => v = .int .i64 1 ∧ Ext No w w' := by
  have hS : St w (inF (nodeB A N B ++ rnodeH A' N R)) w (nodeB A N B ++ rnodeH A' N R) := hS0.has.start
  refine fn_intro tabOk Tryz.func79 (by kernel_rfl) rfl Tryz.ntmps79 (Nat.le_of_ble_eq_true rfl) ?_
  (conv => whnf)
  (refine drawS tabOk mixed [] (No) [0, 1, 2, 3, 5, 6, 7, 8, 9, 10, 11, 4, 12, 13, 14, 15, 16, 17, 19, 20, 21, 22, 23, 24, 25, 18, 26, 27, 28, 29, 31, 32, 33, 34, 35, 36, 37, 30, 38, 39, 40, 41, 43, 44, 45, 46, 42, 47, 48] (by kernel_rfl) ?_; rintro w1 rfl; replace hS := hS.drew)
  have hK := hS.ref No
  have h1 := hS
  repeat' ((conv => whnf); first | refine hS.ldF 0 rfl rfl id ?_ | refine hS.ldF 8 rfl rfl id ?_ | refine hS.ldF 9 rfl rfl id ?_)
  refine (role_active (hS.blk 1 rfl)).mono ?_
  rintro v w2 ⟨rfl, rfl⟩
  refine KeepC.mk hK ?_
  (conv => whnf)
  rw [show (!(N.role.active == N.role.active)) = false by cases N.role.active <;> rfl]
  (conv => whnf)
  repeat' ((conv => whnf); first | refine hS.ldF 0 rfl rfl id ?_ | refine hS.ldF 8 rfl rfl id ?_ | refine hS.ldF 9 rfl rfl id ?_)
  refine (role_epoch (hS.blk 1 rfl)).mono ?_
  rintro v w2 ⟨rfl, rfl⟩
  refine KeepC.mk hK ?_
  (conv => whnf)
  refine brND (fun h => absurd rfl h) (fun _ => ?_)
  repeat' ((conv => whnf); first | refine hS.ldF 8 rfl rfl id ?_ | refine hS.ldF 10 rfl rfl id ?_)
  refine (nlife_ok (N := N) (hS.has.left.left)).mono ?_
  rintro v w3 ⟨rfl, hx⟩
  replace hS := hS.no hx
  replace hK := hK.trans hx
  refine KeepC.mk hK ?_
  (conv => whnf)
  refine brND (fun h => absurd rfl h) (fun _ => ?_)
  repeat' ((conv => whnf); first | refine h1.ldF 8 rfl rfl id ?_)
  refine (nnow_ok (N := N) (hS.has.left.left)).mono ?_
  rintro v w4 ⟨rfl, rfl⟩
  refine KeepC.mk hK ?_
  (conv => whnf)
  refine brND (fun h => absurd rfl h) (fun _ => ?_)
  have hK1 := hK
  clear h1 hK hx
  (conv => whnf)
  (refine drawS tabOk mixed [] (No) [0, 2, 3, 4, 5, 6, 7, 8, 1, 9, 10, 11, 12, 14, 15, 16, 17, 18, 19, 20, 13, 21, 22, 23] (by kernel_rfl) ?_; rintro w1 rfl; replace hS := hS.drew)
  have hK := hS.ref No
  have h1 := hS
  repeat' ((conv => whnf); first | refine hS.ldF 8 rfl rfl id ?_ | refine ldFc (refT_l (hS.get 11 rfl)) id ?_)
  refine (ntable_ok (N := N) (hS.has.left.left) hO.tab.len).mono ?_
  rintro v w5 ⟨a1, c1, rfl, hx, ho, hf⟩
  replace hS := hS.no hx
  replace hK := hK.trans hx
  refine KeepC.mk hK ?_
  (conv => whnf)
  refine (sameCells_same (G := fun _ => True) (ownL_slc codCell ho fun _ _ => trivial) (refT_slc (hS.get 11 rfl))).mono ?_
  rintro v w6 ⟨rfl, hx6⟩
  replace hS := hS.no hx6
  replace hK := hK.trans hx6
  refine KeepC.mk hK ?_
  clear hx ho hf hx6
  repeat' ((conv => whnf); first | refine h1.ldF 8 rfl rfl id ?_ | refine ldFc ((h1.get 13 rfl).2.1.cell 1) id ?_)
  refine (nmirror_ok (N := N) (hS.has.left.left) hO.mir).mono ?_
  rintro v w7 ⟨a2, c2, rfl, hx, ho, hf⟩
  replace hS := hS.no hx
  replace hK := hK.trans hx
  refine KeepC.mk hK ?_
  (conv => whnf)
  refine (sameCells_same (G := fun _ => True) (ownL_slc codCell ho fun _ _ => trivial) (ownL_slc codCell (hS.get 13 rfl).2.2 fun _ _ => trivial)).mono ?_
  rintro v w8 ⟨rfl, hx8⟩
  replace hS := hS.no hx8
  replace hK := hK.trans hx8
  refine KeepC.mk hK ?_
  repeat' ((conv => whnf); first | refine RetC.mk ?_ | refine NzC.mk (by decide) ?_ | refine RngC.mk (by omega) (by omega) ?_ | refine IdxC.mk (by omega) (by omega) ?_ | refine brD (fun _ => ?_) (fun _ => ?_) | refine brND (fun _ => ?_) (fun _ => ?_) | refine brN (fun _ => ?_) (fun _ => ?_) | refine brI (fun _ => ?_) (fun _ => ?_))
  exact ⟨rfl, ((Ext.drawn No _ _).trans hK1).trans ((Ext.drawn No _ _).trans hK)⟩
end
end Go.Proofs.YtoaghhcjlfiflaaGreatDoor

namespace Go.Proofs.YtoaghhcjlfiflaaGreatDoor
open Go Ev
section
variable {w w' w0 : World} {X : WorldA} {Y : RWorldA} {W : WorldS} {R : RBys} {m j q : Nat} {E : Nat → Addr}
theorem coded3_ok {E : Nat → Addr} {n : Nat} (k : Nat) (c : Int) (hk : k < 12) (w : World) (hE : Errs w E n allErrs) (hh : Handle w) :
    CallC Tryz.prog 41 #[errV E k, .int .i64 c] w fun v w' => v = .bool (decide ((k : Int) = c)) ∧ Ext No w w' := by
  refine fn_intro tabOk Tryz.func41 (by kernel_rfl) rfl Tryz.ntmps41 (Nat.le_of_ble_eq_true rfl) ?_
  (conv => whnf)
  refine (code_ok k hk w hE hh).mono ?_
  rintro v w' ⟨rfl, hx⟩
  repeat' ((conv => whnf); first | refine RetC.mk ?_ | refine NzC.mk (by decide) ?_ | refine RngC.mk (by omega) (by omega) ?_ | refine IdxC.mk (by omega) (by omega) ?_ | refine brD (fun _ => ?_) (fun _ => ?_) | refine brND (fun _ => ?_) (fun _ => ?_) | refine brN (fun _ => ?_) (fun _ => ?_) | refine brI (fun _ => ?_) (fun _ => ?_))
  all_goals refine ⟨?_, hx⟩
  all_goals simp [*]
theorem coded3_same {E : Nat → Addr} {n : Nat} (k : Nat) (hk : k < 12) (w : World) (hE : Errs w E n allErrs) (hh : Handle w) :
    CallC Tryz.prog 41 #[errV E k, .int .i64 k] w fun v w' => v = .bool true ∧ Ext No w w' := by
  have h := coded3_ok k k hk w hE hh
  rwa [decide_eq_true rfl] at h
theorem faulted3_ok {E : Nat → Addr} {n k : Nat} {a : Int} {w0 : World} {v : Value} (h : FaultV E w0 w v k a) (h0 : k = 0 → a = -1) (hk : k < 12) (hE : Errs w E n allErrs) (hh : Handle w) :
    CallC Tryz.prog 29 #[v, .agg (encF k a).toArray] w fun v w' => v = .bool true ∧ Ext No w w' := by
  refine fn_intro tabOk Tryz.func29 (by kernel_rfl) rfl Tryz.ntmps29 (Nat.le_of_ble_eq_true rfl) ?_
  have hS := St.start w No
  (conv => whnf)
  refine hS.new (fun bf w' hbf hS => ?_)
  replace hS : St w No w' [blk bf 69 (encF k a)] := hS
  (conv => whnf)
  refine (codeV_ok (h.no hS.ext) hk (hE.ext hS.ext fun _ h => h.elim) (hh.ext hS.ext)).mono ?_
  rintro v w2 ⟨rfl, hx⟩
  replace hS := hS.no hx
  repeat' ((conv => whnf); first | refine RetC.mk ?_ | refine NzC.mk (by decide) ?_ | refine RngC.mk (by omega) (by omega) ?_ | refine IdxC.mk (by omega) (by omega) ?_ | refine hS.ld 0 rfl rfl ?_ | refine hS.laX 0 rfl rfl ?_ | refine brD (fun _ => ?_) (fun _ => ?_) | refine brND (fun _ => ?_) (fun _ => ?_) | refine brN (fun _ => ?_) (fun _ => ?_) | refine brI (fun _ => ?_) (fun _ => ?_))
  all_goals first | exact ⟨rfl, hS.ext⟩ | (exfalso; rename_i h; exact h rfl) | exact ⟨by simp, hS.ext⟩
theorem side_pair (h : Has w (worldH X W ++ rworldH Y W R)) {n : Int} (hn : n = 0 ∨ n = 1) {N : NodeS} (hN : (W.side n).node = some N) : Has w (nodeB (X.side n).A N (W.side n).byt ++ rnodeH (Y.side n) N (R.side n)) := by
  have h1 := h.perm (List.Perm.append (view_perm X W hn) (rhalf_perm Y W R hn))
  refine h1.sub (List.Sublist.append ?_ ?_)
  · have h2 : nodeB (X.side n).A N (W.side n).byt = sideH (X.side n) (W.side n) := by unfold sideH; rw [hN]
    rw [h2]
    exact (List.sublist_append_left _ _).trans (List.sublist_append_right _ _)
  · rw [← rsideH_some (A := Y.side n) (B := R.side n) hN]
    exact (List.sublist_append_right _ _).trans (List.sublist_append_left _ _)
set_option maxRecDepth 10000 in
set_option maxHeartbeats 1000000 in
theorem asWorld_ok (hH : Has w (worldH X W ++ rworldH Y W R)) (hX : Stands E q m w X W) (hY : RStands w0 m j w Y W R) (hC : Codes E q w) :
    CallC Tryz.prog 32 #[.pointer (some ⟨X.w, 0, none⟩), .pointer (some ⟨Y.w, 0, none⟩)] w fun v w' => v = .bool true ∧ Ext No w w' := by
  refine fn_intro tabOk Tryz.func32 (by kernel_rfl) rfl Tryz.ntmps32 (Nat.le_of_ble_eq_true rfl) ?_
  (conv => whnf)
  refine (wswitch_ok hX.has).mono ?_
  rintro v w1 ⟨rfl, hx⟩
  have hS : St w1 (inF (rworldH Y W R)) w1 (rworldH Y W R) := (hY.no hx).has.start
  (conv => whnf)
  (refine drawS tabOk mixed [] (No) [0, 1, 2, 3, 4, 5, 6, 7, 8, 9, 10, 11, 12, 13, 14, 15, 18, 19, 20, 21, 16, 17, 22, 23, 24, 25, 26, 29, 30, 31, 32, 27, 28, 33, 34, 35] (by kernel_rfl) ?_; rintro w1 rfl; replace hS := hS.drew)
  have hK := hS.ref No
  have hS1 := hS
  have hX1 := hX.no (hx.trans (Ext.drawn No w1 (w1.drawn + 1)))
  (conv => whnf)
  refine hS1.ldF 0 rfl rfl id ?_
  (conv => whnf)
  refine brND (fun h => absurd rfl h) (fun _ => ?_)
  (conv => whnf)
  refine hS1.ldF 0 rfl rfl id ?_
  (conv => whnf)
  refine brND (fun h => absurd rfl h) (fun _ => ?_)
  (conv => whnf)
  refine hS1.ldF 0 rfl rfl id ?_
  (conv => whnf)
  refine (wevents_ok hX1).mono ?_
  rintro v w2 ⟨a1, c1, rfl, hx2, ho, hf⟩
  replace hS := hS.no hx2
  replace hK := hK.trans hx2
  refine KeepC.mk hK ?_
  (conv => whnf)
  refine (backEvents_ok (G := fun _ => True) (ownL_slc codEv ho fun _ _ => trivial) (by have := hX.ok.events; omega)).mono ?_
  rintro v w3 ⟨a2, c2, rfl, hx3, ho3, hf3⟩
  replace hS := hS.no hx3
  replace hK := hK.trans hx3
  refine KeepC.mk hK ?_
  (conv => whnf)
  refine (sameEvents_ok (G := fun _ => True) (G' := fun _ => True) (ownL_slc codEv ho3 fun _ _ => trivial) (ownL_slc codEv (hS.get 5 rfl) fun _ _ => trivial)).mono ?_
  rintro v w4 ⟨rfl, hx4⟩
  replace hS := hS.no hx4
  replace hK := hK.trans hx4
  refine KeepC.mk hK ?_
  clear ho hf ho3 hf3
  have hX4 := hX1.no ((hx2.trans hx3).trans hx4)
  (conv => whnf)
  refine hS1.ldF 0 rfl rfl id ?_
  (conv => whnf)
  refine (wflying_ok hX4).mono ?_
  rintro v w5 ⟨a3, c3, vs3, rfl, hx5, ho5⟩
  replace hS := hS.no hx5
  replace hK := hK.trans hx5
  refine KeepC.mk hK ?_
  (conv => whnf)
  refine (backNotes_ok (G := fun _ => True) (ownL_slc codNote (ho5.get 0 rfl) fun _ _ => trivial) (by have := hX.ok.fly; omega)).mono ?_
  rintro v w6 ⟨a4, c4, rfl, hx6, ho6, hf6⟩
  replace hS := hS.no hx6
  replace hK := hK.trans hx6
  refine KeepC.mk hK ?_
  (conv => whnf)
  refine (sameNotes_ok (G := fun _ => True) (ownL_slc codNote ho6 fun _ _ => trivial) (ownL_slc codNote (hS.get 3 rfl) fun _ _ => trivial) (same_cells ((ho5.start.no hx6).get 1 rfl) (hS.get 4 rfl))).mono ?_
  rintro v w7 ⟨rfl, hx7⟩
  replace hS := hS.no hx7
  replace hK := hK.trans hx7
  refine KeepC.mk hK ?_
  clear ho5 ho6 hf6
  have hx0 : Ext No w w7 := (hx.trans (Ext.drawn No _ _)).trans hK
  clear hK hX4 hX1 hS1 hx hx2 hx3 hx4 hx5 hx6 hx7 hS
  (conv => whnf)
  refine loopR tabOk (fun σ w' r => ∃ (k : Nat), σ = [(7, .int .i64 k), (1, .pointer (some ⟨Y.w, 0, none⟩)), (0, .pointer (some ⟨X.w, 0, none⟩))] ∧ r = 2 - k ∧ k ≤ 2 ∧ Ext No w w')
    (σ' := [(7, .int .i64 ((0 : Nat) : Int)), (1, .pointer (some ⟨Y.w, 0, none⟩)), (0, .pointer (some ⟨X.w, 0, none⟩))]) (n := 2) ⟨rfl, rfl, rfl, trivial⟩ ⟨0, rfl, rfl, Nat.zero_le _, hx0⟩ ?_
  clear hx0
  rintro _ w1 r ⟨k, rfl, rfl, hk, hx⟩
  (conv => whnf)
  refine brD (fun h3 => ?_) (fun h3 => ?_)
  · have hn : (k : Int) = 0 ∨ (k : Int) = 1 := by omega
    (conv => whnf)
    refine (wnode_ok (k : Int) (hX.no hx)).mono ?_
    rintro v w2 ⟨rfl, hx2⟩
    replace hx := hx.trans hx2
    have hS := ((hY.no hx).half hn).start
    cases hN : (W.side k).node with
    | none =>
      rw [upErr_none hn hN]
      rw [rhalf_down hN] at hS
      obtain ⟨g, hg⟩ := two_own (hS.get 1 rfl)
      (conv => whnf)
      refine hS.ld 0 rfl (v := .slice (some ⟨g, 0, none⟩) 2 Y.nc) (by rw [← hg]; rfl) ?_
      (conv => whnf)
      refine IdxC.mk (by omega) (by omega) ?_
      (conv => whnf)
      refine hS.ldTwo 1 hn (by rw [← hg]; rfl) rfl ?_
      (conv => whnf)
      refine (coded3_same 7 (by decide) _ (hC.no hx).errs (hC.no hx).handle).mono ?_
      rintro v w3 ⟨rfl, hx3⟩
      replace hx := hx.trans hx3
      (conv => whnf)
      refine RngC.mk (by omega) (by omega) ?_
      (conv => whnf)
      refine LoopE.mk ⟨_, [(7, .int .i64 ((k + 1 : Nat) : Int)), (1, _), (0, _)], ?_, ⟨rfl, rfl, rfl, trivial⟩, ⟨k + 1, rfl, rfl, by omega, hx⟩⟩
      omega
    | some N =>
      rw [upErr_some hn hN]
      rw [rhalf_up hN] at hS
      obtain ⟨g, hg⟩ := two_own (hS.get 1 rfl)
      (conv => whnf)
      refine hS.ld 0 rfl (v := .slice (some ⟨g, 0, none⟩) 2 Y.nc) (by rw [← hg]; rfl) ?_
      (conv => whnf)
      refine IdxC.mk (by omega) (by omega) ?_
      (conv => whnf)
      refine hS.ldTwo 1 hn (by rw [← hg]; rfl) rfl ?_
      (conv => whnf)
      refine hS.ld 0 rfl (v := .slice (some ⟨g, 0, none⟩) 2 Y.nc) (by rw [← hg]; rfl) ?_
      (conv => whnf)
      refine IdxC.mk (by omega) (by omega) ?_
      (conv => whnf)
      refine hS.ldTwo 1 hn (by rw [← hg]; rfl) rfl ?_
      (conv => whnf)
      refine (asNode_ok (side_pair ((hH.start.no hx).has) hn hN).start ((hX.ok.side hn).node N hN).1).mono ?_
      rintro v w3 ⟨rfl, hx3⟩
      replace hx := hx.trans hx3
      (conv => whnf)
      refine RngC.mk (by omega) (by omega) ?_
      (conv => whnf)
      refine LoopE.mk ⟨_, [(7, .int .i64 ((k + 1 : Nat) : Int)), (1, _), (0, _)], ?_, ⟨rfl, rfl, rfl, trivial⟩, ⟨k + 1, rfl, rfl, by omega, hx⟩⟩
      omega
  · (conv => whnf)
    refine (wnode_ok 2 (hX.no hx)).mono ?_
    rintro v w2 ⟨rfl, hx2⟩
    replace hx := hx.trans hx2
    rw [show W.upErr 2 = 2 from rfl]
    (conv => whnf)
    refine (coded3_same 2 (by decide) _ (hC.no hx).errs (hC.no hx).handle).mono ?_
    rintro v w3 ⟨rfl, hx3⟩
    repeat' ((conv => whnf); first | refine RetC.mk ?_ | refine NzC.mk (by decide) ?_ | refine RngC.mk (by omega) (by omega) ?_ | refine IdxC.mk (by omega) (by omega) ?_ | refine brD (fun _ => ?_) (fun _ => ?_) | refine brND (fun _ => ?_) (fun _ => ?_) | refine brN (fun _ => ?_) (fun _ => ?_) | refine brI (fun _ => ?_) (fun _ => ?_))
    exact ⟨rfl, hx.trans hx3⟩
end
end Go.Proofs.YtoaghhcjlfiflaaGreatDoor

namespace Go.Proofs.YtoaghhcjlfiflaaGreatDoor
open Go Ev
section
variable {w w' w0 w1 : World} {X : WorldA} {Y : RWorldA} {W : WorldS} {R : RBys} {m j q : Nat} {E : Nat → Addr} {P L H H' : List Ent} {e : Ent} {S : Nat → Prop}
theorem St.rstands (hS : St w0 No w (P ++ (L ++ rworldH Y W R))) (h : RStands w0 m j w1 Y W R) : RStands w0 m j w Y W R :=
  ⟨hS.has.right.right, h.ok, hS.ext, fun _ hb => hS.new_high (inF_app.2 (.inr (inF_app.2 (.inr hb)))), h.rules, h.a, h.b⟩
theorem St.callEnd (h : St w0 S w (P ++ (L ++ H))) (k : Turns w w' H H') : St w0 S w' (P ++ (L ++ H')) :=
  (St.callAt (A := P ++ L) (H := H) (B := []) (h.perm (List.Perm.of_eq (by simp))) k).perm (List.Perm.of_eq (by simp))
end
end Go.Proofs.YtoaghhcjlfiflaaGreatDoor

namespace Go.Proofs.YtoaghhcjlfiflaaGreatDoor
open Go Ev
structure StepW where
  kind : ByteArray
  s : Int
  n : Int
  p : PktS
  ra : Option Addr
  rn : Nat
  rc : Nat
  rules : List RuleS
def encSW (a : StepW) : List Value := .string a.kind :: .int .i64 a.s :: .int .i64 a.n :: (encPkt a.p ++ [.slice a.ra a.rn a.rc])
structure StepW.Ok (W : World) (a : StepW) : Prop where
  rules : Slc W 5 encRule (fun _ => True) a.ra a.rn a.rules
  s : I64 a.s
  n : I64 a.n
section
variable {W w : World}
theorem stepsFit_ok {a : Option Addr} {n c : Nat} {l : List StepW} (most : Int) (hx : Slc w 10 encSW (StepW.Ok W) a n l) :
    CallC Tryz.prog 10 #[.slice a n c, .int .i64 most] w fun v w' => ∃ b, v = .bool b ∧ (b = true → (∀ x ∈ l, x.rn ≤ 30) ∧ (n : Int) ≤ most) ∧ Ext No w w' := by
  have hl := hx.len
  have hmax := hx.max
  refine fn_intro tabOk Tryz.func10 (by kernel_rfl) rfl Tryz.ntmps10 (Nat.le_of_ble_eq_true rfl) ?_
  have hS := St.start w No
  (conv => whnf)
  refine loopR tabOk (fun σ w' q => ∃ k : Nat, σ = [(5, .int .i64 k), (1, .int .i64 most), (0, .slice a n c)] ∧ q = n - k ∧ k ≤ n ∧ (∀ x ∈ l.take k, x.rn ≤ 30) ∧ St w No w' [])
    (σ' := [(5, .int .i64 ((0 : Nat) : Int)), (1, .int .i64 most), (0, .slice a n c)]) (n := n) ⟨rfl, rfl, rfl, trivial⟩ ⟨0, rfl, rfl, Nat.zero_le _, fun x hx => by simp at hx, hS⟩ ?_
  clear hS
  rintro _ w1 q ⟨k, rfl, rfl, hk, hfit, hS⟩
  (conv => whnf)
  refine brD (fun h3 => ?_) (fun h3 => ?_)
  · obtain ⟨b0, o0, x, hxk, _, rfl, hb0, hc⟩ := hx.at (k := k) (by omega)
    have hst : l.take (k + 1) = l.take k ++ [x] := by rw [List.take_add_one, hxk]; rfl
    (conv => whnf)
    refine IdxC.mk (by omega) (by omega) ?_
    (conv => whnf)
    refine hS.ldr (hc.one 9 (v := .slice x.ra x.rn x.rc) rfl) id ?_
    (conv => whnf)
    refine brD (fun h4 => ?_) (fun h4 => ?_)
    · repeat' ((conv => whnf); first | refine RetC.mk ?_ | refine NzC.mk (by decide) ?_ | refine RngC.mk (by omega) (by omega) ?_ | refine IdxC.mk (by omega) (by omega) ?_ | refine brD (fun _ => ?_) (fun _ => ?_) | refine brND (fun _ => ?_) (fun _ => ?_) | refine brN (fun _ => ?_) (fun _ => ?_) | refine brI (fun _ => ?_) (fun _ => ?_))
      exact ⟨false, rfl, (fun h => by cases h), hS.ext⟩
    have hfit2 : ∀ y ∈ l.take (k + 1), y.rn ≤ 30 := by
      rw [hst]
      intro y hy
      rcases List.mem_append.1 hy with hy | hy
      · exact hfit y hy
      · obtain rfl := List.mem_singleton.1 hy
        omega
    (conv => whnf)
    refine RngC.mk (by omega) (by omega) ?_
    (conv => whnf)
    refine LoopE.mk ⟨_, [(5, .int .i64 ((k + 1 : Nat) : Int)), (1, _), (0, _)], ?_, ⟨rfl, rfl, rfl, trivial⟩, ⟨k + 1, rfl, rfl, by omega, hfit2, hS⟩⟩
    omega
  · obtain rfl : k = n := by omega
    rw [List.take_of_length_le (by omega)] at hfit
    repeat' ((conv => whnf); first | refine RetC.mk ?_ | refine NzC.mk (by decide) ?_ | refine RngC.mk (by omega) (by omega) ?_ | refine IdxC.mk (by omega) (by omega) ?_ | refine brD (fun _ => ?_) (fun _ => ?_) | refine brND (fun _ => ?_) (fun _ => ?_) | refine brN (fun _ => ?_) (fun _ => ?_) | refine brI (fun _ => ?_) (fun _ => ?_))
    exact ⟨_, rfl, fun h => ⟨hfit, of_decide_eq_true h⟩, hS.ext⟩
theorem stp_str {e d : Nat} {t : TypeId} {v : Value} (he : e = d + 1) (hu : Tryz.prog.underlying t = some .string) (h : Shp Tryz.prog w e t [v]) : ∃ s, v = .string s := by
  subst he
  unfold Shp at h
  rw [hu] at h
  obtain ⟨s, h, _⟩ := h
  simp only [List.cons.injEq, and_true] at h
  exact ⟨s, h⟩
theorem len10 {α : Type} {l : List α} (h : l.length = 10) : ∃ a b c d e f g i j k, l = [a, b, c, d, e, f, g, i, j, k] := by
  match l, h with
  | [a, b, c, d, e, f, g, i, j, k], _ => exact ⟨a, b, c, d, e, f, g, i, j, k, rfl⟩
theorem dec_pktW {d : Nat} (hd : 10 ≤ d) : Dec Tryz.prog w d 36 encPkt (fun _ => True) := by
  intro cs h
  have h1 : flatK Tryz.prog 10 36 = some [.int, .int, .int, .int, .int, .int] := by kernel_rfl
  have h2 : Tryz.prog.cellsOf 36 = 6 := by kernel_rfl
  obtain ⟨ps, rfl, hk, hok⟩ := shp_flat 10 d _ _ cs h1 hd h2 h
  obtain ⟨p1, r, rfl, g1, hk⟩ := kinds_cons hk
  obtain ⟨p2, r, rfl, g2, hk⟩ := kinds_cons hk
  obtain ⟨p3, r, rfl, g3, hk⟩ := kinds_cons hk
  obtain ⟨p4, r, rfl, g4, hk⟩ := kinds_cons hk
  obtain ⟨p5, r, rfl, g5, hk⟩ := kinds_cons hk
  obtain ⟨p6, r, rfl, g6, hk⟩ := kinds_cons hk
  obtain rfl := kinds_nil hk
  obtain ⟨n1, rfl⟩ := k_int g1
  obtain ⟨n2, rfl⟩ := k_int g2
  obtain ⟨n3, rfl⟩ := k_int g3
  obtain ⟨n4, rfl⟩ := k_int g4
  obtain ⟨n5, rfl⟩ := k_int g5
  obtain ⟨n6, rfl⟩ := k_int g6
  exact ⟨⟨n1, n2, n3, n4, n5, n6⟩, rfl, trivial⟩
theorem dec_step {W : World} {c d e : Nat} (hc : 10 ≤ c) (hd : d = c + 1) (he : e = d + 1) : Dec Tryz.prog W e 38 encSW (StepW.Ok W) := by
  intro cs h
  obtain ⟨hl, hff⟩ := shp_struct he Tryz.underlying38 h
  have hl2 : cs.length = 10 := hl.trans (by kernel_rfl)
  clear hl h
  have c0 : Tryz.prog.cellsOf 9 = 1 := by kernel_rfl
  have c1 : Tryz.prog.cellsOf 3 = 1 := by kernel_rfl
  have c2 : Tryz.prog.cellsOf 36 = 6 := by kernel_rfl
  have c4 : Tryz.prog.cellsOf 22 = 1 := by kernel_rfl
  have h0 : Shp Tryz.prog W d 9 ((cs.drop 0).take (Tryz.prog.cellsOf 9)) := hff 0 _ rfl
  have h1 : Shp Tryz.prog W d 3 ((cs.drop 1).take (Tryz.prog.cellsOf 3)) := hff 1 _ rfl
  have h2 : Shp Tryz.prog W d 3 ((cs.drop 2).take (Tryz.prog.cellsOf 3)) := hff 2 _ rfl
  have h3 : Shp Tryz.prog W d 36 ((cs.drop 3).take (Tryz.prog.cellsOf 36)) := hff 3 _ rfl
  have h4 : Shp Tryz.prog W d 22 ((cs.drop 9).take (Tryz.prog.cellsOf 22)) := hff 4 _ rfl
  clear hff
  rw [c0] at h0
  rw [c1] at h1 h2
  rw [c2] at h3
  rw [c4] at h4
  obtain ⟨x0, x1, x2, x3, x4, x5, x6, x7, x8, x9, rfl⟩ := len10 hl2
  simp only [List.drop_zero, List.drop_succ_cons, List.take_succ_cons, List.take_zero] at h0 h1 h2 h3 h4
  obtain ⟨kind, rfl⟩ := stp_str hd Tryz.underlying9 h0
  obtain ⟨s, hs, hsI⟩ := shp_int hd Tryz.underlying3 h1
  obtain ⟨n, hn, hnI⟩ := shp_int hd Tryz.underlying3 h2
  obtain ⟨p, hp, _⟩ := dec_pktW (by omega) _ h3
  obtain ⟨ra, rn, rc, rfl⟩ := shp_slice hd Tryz.underlying22 h4
  obtain ⟨rl, hrl, _⟩ := shp_slc (sz := 5) hd Tryz.underlying22 (by kernel_rfl) (by decide) (dec_ruleW hc) h4
  simp only [List.cons.injEq, and_true] at hs hn
  subst hs hn
  refine ⟨⟨kind, s, n, p, ra, rn, rc, rl⟩, ?_, hrl, hsI, hnI⟩
  unfold encSW
  dsimp only
  rw [← hp]
  rfl
end
end Go.Proofs.YtoaghhcjlfiflaaGreatDoor

namespace Go.Proofs.YtoaghhcjlfiflaaGreatDoor
open Go Ev
def step_pr (p : PktS) : List Pr := [.int p.proto, .int p.sa, .int p.sp, .int p.da, .int p.dp, .int p.flags]
theorem eqPktW {p : PktS} {k : Value → Prop} (hk : k (.bool true)) :
    PureC Tryz.prog (do eqGuard .eql 36 (.tmp 0) (.tmp 0) (.agg (encPkt p).toArray) (.agg (encPkt p).toArray); Go.binOp .eql 36 (.agg (encPkt p).toArray) (.agg (encPkt p).toArray)) k :=
  eqS (a := step_pr p) (b := step_pr p) (ks := [.int, .int, .int, .int, .int, .int]) (by kernel_rfl) (by kernel_rfl) (by kernel_rfl) rfl rfl (by simpa using hk)
def Stepped (w0 w' : World) (m j : Nat) (X : WorldA) (Y : RWorldA) : Prop := ∃ (X' : WorldA) (Y' : RWorldA) (V : WorldS) (R' : RBys), X'.w = X.w ∧ Y'.w = Y.w ∧ St w0 No w' (worldH X' V ++ rworldH Y' V R') ∧ RStands w0 m j w' Y' V R'
section
variable {w w' w0 w1 : World} {X : WorldA} {Y : RWorldA} {W : WorldS} {R : RBys} {m j q : Nat} {E : Nat → Addr}
theorem RStands.le (h : RStands w0 m j w Y W R) {m' j' : Nat} (hm : m ≤ m') (hj : j ≤ j') : RStands w0 m' j' w Y W R := ⟨h.has, h.ok.mono hm, h.ext, h.new, h.rules, h.a.le hj, h.b.le hj⟩
set_option maxRecDepth 10000 in
theorem wstep_ok (a : StepW) (hS : St w0 No w (worldH X W ++ rworldH Y W R)) (hY : RStands w0 m j w Y W R) (hm : m + 34 ≤ 40000000) (hj : j + 18 ≤ 50000000) (ha : a.Ok w0) (hf : a.rn ≤ 30) (hE : Errs w0 E w0.heap.size allErrs) (hh : Handle w0) :
    CallC Tryz.prog 31 #[.pointer (some ⟨X.w, 0, none⟩), .pointer (some ⟨Y.w, 0, none⟩), .agg (encSW a).toArray] w fun v w' => v = .bool true ∧ Stepped w0 w' (m + 34) (j + 18) X Y := by
  have hE2 : Errs w0 E w0.heap.size insErrs := hE.sub rfl
  have hn := ha.n.2
  refine fn_intro tabOk Tryz.func31 (by kernel_rfl) rfl Tryz.ntmps31 (Nat.le_of_ble_eq_true rfl) ?_
  (conv => whnf)
  refine hS.new (fun bx w' hbx hS => ?_)
  replace hS : St w0 No w' ([blk bx 38 (encSW a)] ++ (worldH X W ++ rworldH Y W R)) := hS.perm List.perm_append_comm
  have hb0 : ¬ inF (worldH X W ++ rworldH Y W R) bx := hS.frontOut (List.mem_singleton.2 rfl)
  have hbT : ¬ (inF (worldH X W) bx ∨ inF (rworldH Y W R) bx) := fun h => hb0 (inF_app.2 h)
  (conv => whnf)
  refine hS.ld 0 rfl (v := .string a.kind) rfl ?_
  (conv => whnf)
  refine eqStr ?_
  (conv => whnf)
  refine brD (fun _ => ?_) (fun _ => ?_)
  · skip
    (conv => whnf)
    (refine drawS tabOk mixed [] (fun b => inF (worldH X W) b ∨ inF (rworldH Y W R) b) [0, 1, 2, 4, 5, 6, 3, 7, 8, 9] (by kernel_rfl) ?_; rintro w1 rfl; replace hS := hS.drew)
    have hK := hS.ref (fun b => inF (worldH X W) b ∨ inF (rworldH Y W R) b)
    (conv => whnf)
    refine hS.ldF 0 rfl rfl hbT ?_
    (conv => whnf)
    refine hS.ldF 0 rfl rfl hbT ?_
    (conv => whnf)
    refine (wtick_ok (hm := hm) a.s (St.stands hS hE2 hY.ok)).mono ?_
    rintro v w2 ⟨rfl, X2, hX2, ht⟩
    replace hS := St.callAt hS ht
    replace hK := hK.trans (ht.ext.mono fun b h => .inl h)
    refine KeepC.mk hK ?_
    clear ht
    (conv => whnf)
    refine (rwtick_ok (hm := hm) (hj := by omega) a.s (St.rstands hS hY)).mono ?_
    rintro v w3 ⟨rfl, Y2, R2, hY2, hk, hst⟩
    replace hS := St.callEnd hS hk
    replace hK := hK.trans (hk.ext.mono fun b h => .inr h)
    refine KeepC.mk hK ?_
    clear hk
    (conv => whnf)
    refine (coded3_same _ (wtick_code W a.s) _ (hE.ext hS.ext fun _ h => h.elim) (hh.ext hS.ext)).mono ?_
    rintro v w4 ⟨rfl, hx⟩
    replace hS := hS.no hx
    refine KeepC.mk (hK.trans hx.of_no) ?_
    repeat' ((conv => whnf); first | refine RetC.mk ?_ | refine NzC.mk (by decide) ?_ | refine RngC.mk (by omega) (by omega) ?_ | refine IdxC.mk (by omega) (by omega) ?_ | refine brD (fun _ => ?_) (fun _ => ?_) | refine brND (fun _ => ?_) (fun _ => ?_) | refine brN (fun _ => ?_) (fun _ => ?_) | refine brI (fun _ => ?_) (fun _ => ?_))
    exact ⟨rfl, X2, Y2, (W.tick a.s).2, R2, by first | rfl | exact hX2, hY2, hS.weaken (List.sublist_append_right _ _), (hst.no hx).le (by omega) (by omega)⟩
  (conv => whnf)
  refine eqStr ?_
  (conv => whnf)
  refine brD (fun _ => ?_) (fun _ => ?_)
  · skip
    (conv => whnf)
    (refine drawS tabOk mixed [] (fun b => inF (worldH X W) b ∨ inF (rworldH Y W R) b) [0, 1, 2, 4, 5, 6, 3, 7, 8, 9] (by kernel_rfl) ?_; rintro w1 rfl; replace hS := hS.drew)
    have hK := hS.ref (fun b => inF (worldH X W) b ∨ inF (rworldH Y W R) b)
    (conv => whnf)
    refine hS.ldF 0 rfl rfl hbT ?_
    (conv => whnf)
    refine hS.ldF 0 rfl rfl hbT ?_
    (conv => whnf)
    refine (wdown_ok a.s (St.stands hS hE2 hY.ok)).mono ?_
    rintro v w2 ⟨rfl, ht⟩
    replace hS := St.callAt hS ht
    replace hK := hK.trans (ht.ext.mono fun b h => .inl h)
    refine KeepC.mk hK ?_
    clear ht
    (conv => whnf)
    refine (rdown_ok a.s (St.rstands hS hY)).mono ?_
    rintro v w3 ⟨rfl, Y2, R2, hY2, hk, hst⟩
    replace hS := St.callEnd hS hk
    replace hK := hK.trans (hk.ext.mono fun b h => .inr h)
    refine KeepC.mk hK ?_
    clear hk
    (conv => whnf)
    refine (coded3_same _ (wdown_code W a.s) _ (hE.ext hS.ext fun _ h => h.elim) (hh.ext hS.ext)).mono ?_
    rintro v w4 ⟨rfl, hx⟩
    replace hS := hS.no hx
    refine KeepC.mk (hK.trans hx.of_no) ?_
    repeat' ((conv => whnf); first | refine RetC.mk ?_ | refine NzC.mk (by decide) ?_ | refine RngC.mk (by omega) (by omega) ?_ | refine IdxC.mk (by omega) (by omega) ?_ | refine brD (fun _ => ?_) (fun _ => ?_) | refine brND (fun _ => ?_) (fun _ => ?_) | refine brN (fun _ => ?_) (fun _ => ?_) | refine brI (fun _ => ?_) (fun _ => ?_))
    exact ⟨rfl, X, Y2, (W.down a.s).2, R2, by first | rfl | exact hX2, hY2, hS.weaken (List.sublist_append_right _ _), (hst.no hx).le (by omega) (by omega)⟩
  (conv => whnf)
  refine eqStr ?_
  (conv => whnf)
  refine brD (fun _ => ?_) (fun _ => ?_)
  · skip
    (conv => whnf)
    (refine drawS tabOk mixed [] (fun b => inF (worldH X W) b ∨ inF (rworldH Y W R) b) [0, 1, 2, 4, 5, 6, 3, 7, 8, 9] (by kernel_rfl) ?_; rintro w1 rfl; replace hS := hS.drew)
    have hK := hS.ref (fun b => inF (worldH X W) b ∨ inF (rworldH Y W R) b)
    (conv => whnf)
    refine hS.ldF 0 rfl rfl hbT ?_
    (conv => whnf)
    refine hS.ldF 0 rfl rfl hbT ?_
    (conv => whnf)
    refine (wcome_ok a.s (St.stands hS hE2 hY.ok)).mono ?_
    rintro v w2 ⟨rfl, X2, hX2, ht⟩
    replace hS := St.callAt hS ht
    replace hK := hK.trans (ht.ext.mono fun b h => .inl h)
    refine KeepC.mk hK ?_
    clear ht
    (conv => whnf)
    refine (rcome_ok (hj := by omega) a.s (St.rstands hS hY)).mono ?_
    rintro v w3 ⟨rfl, Y2, R2, hY2, hk, hst⟩
    replace hS := St.callEnd hS hk
    replace hK := hK.trans (hk.ext.mono fun b h => .inr h)
    refine KeepC.mk hK ?_
    clear hk
    (conv => whnf)
    refine (coded3_same _ (wup_code W a.s) _ (hE.ext hS.ext fun _ h => h.elim) (hh.ext hS.ext)).mono ?_
    rintro v w4 ⟨rfl, hx⟩
    replace hS := hS.no hx
    refine KeepC.mk (hK.trans hx.of_no) ?_
    repeat' ((conv => whnf); first | refine RetC.mk ?_ | refine NzC.mk (by decide) ?_ | refine RngC.mk (by omega) (by omega) ?_ | refine IdxC.mk (by omega) (by omega) ?_ | refine brD (fun _ => ?_) (fun _ => ?_) | refine brND (fun _ => ?_) (fun _ => ?_) | refine brN (fun _ => ?_) (fun _ => ?_) | refine brI (fun _ => ?_) (fun _ => ?_))
    exact ⟨rfl, X2, Y2, (W.up a.s).2, R2, by first | rfl | exact hX2, hY2, hS.weaken (List.sublist_append_right _ _), (hst.no hx).le (by omega) (by omega)⟩
  (conv => whnf)
  refine eqStr ?_
  (conv => whnf)
  refine brD (fun _ => ?_) (fun _ => ?_)
  · (conv => whnf)
    (refine drawS tabOk mixed [] (fun b => inF (worldH X W) b ∨ inF (rworldH Y W R) b) [0, 1, 2, 3, 4, 6, 7, 8, 9, 10, 5, 11, 12, 13] (by kernel_rfl) ?_; rintro w1 rfl; replace hS := hS.drew)
    have hK := hS.ref (fun b => inF (worldH X W) b ∨ inF (rworldH Y W R) b)
    (conv => whnf)
    refine hS.ldF 0 rfl (v := .int .i64 a.s) rfl hbT ?_
    (conv => whnf)
    refine hS.ldF (T := fun b => inF (worldH X W) b ∨ inF (rworldH Y W R) b) 0 rfl (v := .int .i64 a.n) rfl hbT ?_
    (conv => whnf)
    refine hS.ldF (T := fun b => inF (worldH X W) b ∨ inF (rworldH Y W R) b) 0 rfl (v := .int .i64 a.s) rfl hbT ?_
    (conv => whnf)
    refine hS.ldF (T := fun b => inF (worldH X W) b ∨ inF (rworldH Y W R) b) 0 rfl (v := .int .i64 a.n) rfl hbT ?_
    (conv => whnf)
    refine (wcut_ok a.s a.n (St.stands hS hE2 hY.ok)).mono ?_
    rintro v w2 ⟨rfl, ht⟩
    replace hS := St.callAt hS ht
    replace hK := hK.trans (ht.ext.mono fun b h => .inl h)
    refine KeepC.mk hK ?_
    clear ht
    (conv => whnf)
    refine (rcut_ok a.s a.n hn (St.rstands hS hY)).mono ?_
    rintro v w3 ⟨rfl, Y2, R2, hY2, hk, hst⟩
    replace hS := St.callEnd hS hk
    replace hK := hK.trans (hk.ext.mono fun b h => .inr h)
    refine KeepC.mk hK ?_
    clear hk
    (conv => whnf)
    refine (coded3_same _ (wcut_code W a.s a.n) _ (hE.ext hS.ext fun _ h => h.elim) (hh.ext hS.ext)).mono ?_
    rintro v w4 ⟨rfl, hx⟩
    replace hS := hS.no hx
    refine KeepC.mk (hK.trans hx.of_no) ?_
    repeat' ((conv => whnf); first | refine RetC.mk ?_ | refine NzC.mk (by decide) ?_ | refine RngC.mk (by omega) (by omega) ?_ | refine IdxC.mk (by omega) (by omega) ?_ | refine brD (fun _ => ?_) (fun _ => ?_) | refine brND (fun _ => ?_) (fun _ => ?_) | refine brN (fun _ => ?_) (fun _ => ?_) | refine brI (fun _ => ?_) (fun _ => ?_))
    exact ⟨rfl, X, Y2, (W.cut a.s a.n).2, R2, by first | rfl | exact hX2, hY2, hS.weaken (List.sublist_append_right _ _), (hst.no hx).le (by omega) (by omega)⟩
  (conv => whnf)
  refine eqStr ?_
  (conv => whnf)
  refine brD (fun _ => ?_) (fun _ => ?_)
  · skip
    (conv => whnf)
    refine hS.laX 0 rfl rfl ?_
    (conv => whnf)
    refine (winside_ok a.p (St.stands hS hE2 hY.ok) (by omega)).mono ?_
    rintro v w2 ⟨rfl, ht⟩
    replace hS := St.callAt hS ht
    clear ht
    (conv => whnf)
    refine hS.new (fun b1 w' hb1 hS => ?_)
    replace hS := hS.perm List.perm_append_comm
    (conv => whnf)
    refine hS.st 0 rfl (Nat.le_of_ble_eq_true rfl) rfl (fun w' hS => ?_)
    replace hS : St w0 No w' ([blk b1 36 (encPkt (W.inside a.p).2.1), blk bx 38 (encSW a)] ++ (worldH X (W.inside a.p).2.2 ++ rworldH Y W R)) := hS
    (conv => whnf)
    refine hS.laX 1 rfl rfl ?_
    (conv => whnf)
    refine (rinsideW_ok a.p (St.rstands hS hY) (by omega)).mono ?_
    rintro v w3 ⟨rfl, Y2, R2, hY2, hk, hst⟩
    replace hS := St.callEnd hS hk
    clear hk
    (conv => whnf)
    refine hS.new (fun b2 w' hb2 hS => ?_)
    replace hS := hS.perm List.perm_append_comm
    (conv => whnf)
    refine hS.st 0 rfl (Nat.le_of_ble_eq_true rfl) rfl (fun w' hS => ?_)
    replace hS : St w0 No w' ([blk b2 36 (encPkt (W.inside a.p).2.1), blk b1 36 (encPkt (W.inside a.p).2.1), blk bx 38 (encSW a)] ++ (worldH X (W.inside a.p).2.2 ++ rworldH Y2 (W.inside a.p).2.2 R2)) := hS
    replace hst := St.rstands hS hst
    (conv => whnf)
    refine (coded3_same _ (winside_code W a.p) _ (hE.ext hS.ext fun _ h => h.elim) (hh.ext hS.ext)).mono ?_
    rintro v w4 ⟨rfl, hx⟩
    replace hS := hS.no hx
    replace hst := hst.no hx
    (conv => whnf)
    refine hS.laX 1 rfl rfl ?_
    (conv => whnf)
    refine hS.laX 0 rfl rfl ?_
    (conv => whnf)
    refine eqPktW ?_
    repeat' ((conv => whnf); first | refine RetC.mk ?_ | refine NzC.mk (by decide) ?_ | refine RngC.mk (by omega) (by omega) ?_ | refine IdxC.mk (by omega) (by omega) ?_ | refine brD (fun _ => ?_) (fun _ => ?_) | refine brND (fun _ => ?_) (fun _ => ?_) | refine brN (fun _ => ?_) (fun _ => ?_) | refine brI (fun _ => ?_) (fun _ => ?_))
    exact ⟨rfl, X, Y2, (W.inside a.p).2.2, R2, rfl, hY2, hS.weaken (List.sublist_append_right _ _), hst.le (by omega) (by omega)⟩
  (conv => whnf)
  refine eqStr ?_
  (conv => whnf)
  refine brD (fun _ => ?_) (fun _ => ?_)
  · skip
    (conv => whnf)
    refine hS.laX 0 rfl rfl ?_
    (conv => whnf)
    refine (woutside_ok a.p (St.stands hS hE2 hY.ok) (by omega)).mono ?_
    rintro v w2 ⟨rfl, ht⟩
    replace hS := St.callAt hS ht
    clear ht
    (conv => whnf)
    refine hS.new (fun b1 w' hb1 hS => ?_)
    replace hS := hS.perm List.perm_append_comm
    (conv => whnf)
    refine hS.st 0 rfl (Nat.le_of_ble_eq_true rfl) rfl (fun w' hS => ?_)
    replace hS : St w0 No w' ([blk b1 36 (encPkt (W.outside a.p).2.1), blk bx 38 (encSW a)] ++ (worldH X (W.outside a.p).2.2 ++ rworldH Y W R)) := hS
    (conv => whnf)
    refine hS.laX 1 rfl rfl ?_
    (conv => whnf)
    refine (routsideW_ok a.p (St.rstands hS hY) (by omega)).mono ?_
    rintro v w3 ⟨rfl, Y2, R2, hY2, hk, hst⟩
    replace hS := St.callEnd hS hk
    clear hk
    (conv => whnf)
    refine hS.new (fun b2 w' hb2 hS => ?_)
    replace hS := hS.perm List.perm_append_comm
    (conv => whnf)
    refine hS.st 0 rfl (Nat.le_of_ble_eq_true rfl) rfl (fun w' hS => ?_)
    replace hS : St w0 No w' ([blk b2 36 (encPkt (W.outside a.p).2.1), blk b1 36 (encPkt (W.outside a.p).2.1), blk bx 38 (encSW a)] ++ (worldH X (W.outside a.p).2.2 ++ rworldH Y2 (W.outside a.p).2.2 R2)) := hS
    replace hst := St.rstands hS hst
    (conv => whnf)
    refine (coded3_same _ (woutside_code W a.p) _ (hE.ext hS.ext fun _ h => h.elim) (hh.ext hS.ext)).mono ?_
    rintro v w4 ⟨rfl, hx⟩
    replace hS := hS.no hx
    replace hst := hst.no hx
    (conv => whnf)
    refine hS.laX 1 rfl rfl ?_
    (conv => whnf)
    refine hS.laX 0 rfl rfl ?_
    (conv => whnf)
    refine eqPktW ?_
    repeat' ((conv => whnf); first | refine RetC.mk ?_ | refine NzC.mk (by decide) ?_ | refine RngC.mk (by omega) (by omega) ?_ | refine IdxC.mk (by omega) (by omega) ?_ | refine brD (fun _ => ?_) (fun _ => ?_) | refine brND (fun _ => ?_) (fun _ => ?_) | refine brN (fun _ => ?_) (fun _ => ?_) | refine brI (fun _ => ?_) (fun _ => ?_))
    exact ⟨rfl, X, Y2, (W.outside a.p).2.2, R2, rfl, hY2, hS.weaken (List.sublist_append_right _ _), hst.le (by omega) (by omega)⟩
  (conv => whnf)
  refine eqStr ?_
  (conv => whnf)
  refine brD (fun _ => ?_) (fun _ => ?_)
  · skip
    (conv => whnf)
    (refine drawS tabOk mixed [] (fun b => inF (worldH X W) b ∨ inF (rworldH Y W R) b) [0, 1, 2, 4, 5, 6, 3, 7, 8, 9] (by kernel_rfl) ?_; rintro w1 rfl; replace hS := hS.drew)
    have hK := hS.ref (fun b => inF (worldH X W) b ∨ inF (rworldH Y W R) b)
    (conv => whnf)
    refine hS.ldF 0 rfl rfl hbT ?_
    (conv => whnf)
    refine hS.ldF 0 rfl rfl hbT ?_
    (conv => whnf)
    refine (wdrop_ok a.n (St.stands hS hE2 hY.ok)).mono ?_
    rintro v w2 ⟨rfl, X2, hX2, ht⟩
    replace hS := St.callAt hS ht
    replace hK := hK.trans (ht.ext.mono fun b h => .inl h)
    refine KeepC.mk hK ?_
    clear ht
    (conv => whnf)
    refine (rwdrop_ok a.n (St.rstands hS hY)).mono ?_
    rintro v w3 ⟨rfl, Y2, R2, hY2, hk, hst⟩
    replace hS := St.callEnd hS hk
    replace hK := hK.trans (hk.ext.mono fun b h => .inr h)
    refine KeepC.mk hK ?_
    clear hk
    (conv => whnf)
    refine (coded3_same _ (wdrop_code W a.n) _ (hE.ext hS.ext fun _ h => h.elim) (hh.ext hS.ext)).mono ?_
    rintro v w4 ⟨rfl, hx⟩
    replace hS := hS.no hx
    refine KeepC.mk (hK.trans hx.of_no) ?_
    repeat' ((conv => whnf); first | refine RetC.mk ?_ | refine NzC.mk (by decide) ?_ | refine RngC.mk (by omega) (by omega) ?_ | refine IdxC.mk (by omega) (by omega) ?_ | refine brD (fun _ => ?_) (fun _ => ?_) | refine brND (fun _ => ?_) (fun _ => ?_) | refine brN (fun _ => ?_) (fun _ => ?_) | refine brI (fun _ => ?_) (fun _ => ?_))
    exact ⟨rfl, X2, Y2, (W.drop a.n).2, R2, by first | rfl | exact hX2, hY2, hS.weaken (List.sublist_append_right _ _), (hst.no hx).le (by omega) (by omega)⟩
  (conv => whnf)
  refine eqStr ?_
  (conv => whnf)
  refine brD (fun _ => ?_) (fun _ => ?_)
  · skip
    (conv => whnf)
    (refine drawS tabOk mixed [] (fun b => inF (worldH X W) b ∨ inF (rworldH Y W R) b) [0, 1, 2, 4, 5, 6, 3, 7, 8, 9] (by kernel_rfl) ?_; rintro w1 rfl; replace hS := hS.drew)
    have hK := hS.ref (fun b => inF (worldH X W) b ∨ inF (rworldH Y W R) b)
    (conv => whnf)
    refine hS.ldF 0 rfl rfl hbT ?_
    (conv => whnf)
    refine hS.ldF 0 rfl rfl hbT ?_
    (conv => whnf)
    refine (wtwice_ok a.n (St.stands hS hE2 hY.ok)).mono ?_
    rintro v w2 ⟨rfl, X2, hX2, ht⟩
    replace hS := St.callAt hS ht
    replace hK := hK.trans (ht.ext.mono fun b h => .inl h)
    refine KeepC.mk hK ?_
    clear ht
    (conv => whnf)
    refine (rwtwice_ok a.n (St.rstands hS hY)).mono ?_
    rintro v w3 ⟨rfl, Y2, R2, hY2, hk, hst⟩
    replace hS := St.callEnd hS hk
    replace hK := hK.trans (hk.ext.mono fun b h => .inr h)
    refine KeepC.mk hK ?_
    clear hk
    (conv => whnf)
    refine (coded3_same _ (wtwice_code W a.n) _ (hE.ext hS.ext fun _ h => h.elim) (hh.ext hS.ext)).mono ?_
    rintro v w4 ⟨rfl, hx⟩
    replace hS := hS.no hx
    refine KeepC.mk (hK.trans hx.of_no) ?_
    repeat' ((conv => whnf); first | refine RetC.mk ?_ | refine NzC.mk (by decide) ?_ | refine RngC.mk (by omega) (by omega) ?_ | refine IdxC.mk (by omega) (by omega) ?_ | refine brD (fun _ => ?_) (fun _ => ?_) | refine brND (fun _ => ?_) (fun _ => ?_) | refine brN (fun _ => ?_) (fun _ => ?_) | refine brI (fun _ => ?_) (fun _ => ?_))
    exact ⟨rfl, X2, Y2, (W.twice a.n).2, R2, by first | rfl | exact hX2, hY2, hS.weaken (List.sublist_append_right _ _), (hst.no hx).le (by omega) (by omega)⟩
  (conv => whnf)
  refine eqStr ?_
  (conv => whnf)
  refine brD (fun _ => ?_) (fun _ => ?_)
  · have hcd := fault_code a.rules
    have hrn := ha.rules.len
    (conv => whnf)
    refine hS.ld 0 rfl (v := .slice a.ra a.rn a.rc) rfl ?_
    (conv => whnf)
    refine (rulesFault_ok (ha.rules.no hS.ext)).mono ?_
    rintro v w2 ⟨rfl, hx⟩
    replace hS := hS.no hx
    clear hx
    (conv => whnf)
    refine hS.new (fun bf w' hbf hS => ?_)
    replace hS := hS.perm List.perm_append_comm
    (conv => whnf)
    refine hS.st 0 rfl (Nat.le_of_ble_eq_true rfl) rfl (fun w' hS => ?_)
    replace hS : St w0 No w' ([blk bf 69 (encF (faultL a.rules).1 (faultL a.rules).2), blk bx 38 (encSW a)] ++ (worldH X W ++ rworldH Y W R)) := hS
    have hbx1 : ¬ inF (worldH X W) bx := fun h => hbT (.inl h)
    have hbf1 : ¬ inF (worldH X W) bf := hS.rowOut (List.mem_singleton.2 rfl)
    (conv => whnf)
    refine hS.ld 0 rfl rfl ?_
    (conv => whnf)
    refine brD (fun h0 => ?_) (fun h0 => ?_)
    · have hg : GoodR a.rules := fault_good.1 (show (faultL a.rules).1 = 0 by omega)
      (conv => whnf)
      refine hS.ld 1 rfl (v := .slice a.ra a.rn a.rc) rfl ?_
      (conv => whnf)
      refine (rsetRules_ok ha.rules hg (St.rstands hS hY)).mono ?_
      rintro v w2 ⟨Y2, R2, hY2, hk, hst⟩
      replace hS := St.callEnd hS hk
      clear hk
      (conv => whnf)
      (refine drawS tabOk mixed [] (fun b => inF (worldH X W) b) [0, 1, 2, 5, 3, 4, 6, 7] (by kernel_rfl) ?_; rintro w1 rfl; replace hS := hS.drew)
      have hK := hS.ref (fun b => inF (worldH X W) b)
      (conv => whnf)
      refine hS.ldF 1 rfl (v := .slice a.ra a.rn a.rc) rfl hbx1 ?_
      (conv => whnf)
      refine hS.laXF 0 rfl rfl hbf1 ?_
      (conv => whnf)
      refine (ownRules_ok (ha.rules.no hS.ext) (by omega)).mono ?_
      rintro v w3 ⟨a', c', rfl, hx, ho, hfr⟩
      replace hS := hS.made hx ownL_local ho (fun g hg => hfr g (by simpa [ownL, own] using hg))
      replace hS := hS.perm List.perm_append_comm
      replace hK := hK.trans hx.of_no
      refine KeepC.mk hK ?_
      clear hx ho hfr
      replace hS : St w0 No w3 ([ownL 92 5 encRule (.slice a' a.rn c') a.rules, blk bf 69 (encF (faultL a.rules).1 (faultL a.rules).2), blk bx 38 (encSW a)] ++ (worldH X W ++ rworldH Y2 (W.rule a.rules) R2)) := hS
      have hslc := ownL_slc (G := fun _ => True) codRule (hS.get 0 rfl) fun _ _ => trivial
      (conv => whnf)
      refine (wrules_ok hslc (by omega) (fun _ b0 o0 h0 hb => hS.rowOut (foot_own (by rw [h0]; rfl)) hb) (St.stands hS hE2 hY.ok)).mono ?_
      rintro v w4 ⟨hF, X2, hX2, ht⟩
      replace hS := St.callAt hS ht
      replace hK := hK.trans ht.ext
      refine KeepC.mk hK ?_
      clear ht hslc
      (conv => whnf)
      refine (faulted3_ok hF (by omega) (by omega) (hE.ext hS.ext fun _ h => h.elim) (hh.ext hS.ext)).mono ?_
      rintro v w5 ⟨rfl, hx⟩
      replace hS := hS.no hx
      refine KeepC.mk (hK.trans hx.of_no) ?_
      clear hF hK
      rw [if_pos (show (faultL a.rules).1 = 0 by omega)] at hS
      replace hY := (St.rstands hS hst).le (Nat.le_add_right m 34) (Nat.le_add_right j 18)
      repeat' ((conv => whnf); first | refine RetC.mk ?_ | refine NzC.mk (by decide) ?_ | refine RngC.mk (by omega) (by omega) ?_ | refine IdxC.mk (by omega) (by omega) ?_ | refine brD (fun _ => ?_) (fun _ => ?_) | refine brND (fun _ => ?_) (fun _ => ?_) | refine brN (fun _ => ?_) (fun _ => ?_) | refine brI (fun _ => ?_) (fun _ => ?_))
      exact ⟨rfl, X2, Y2, (W.rule a.rules), R2, hX2, by first | rfl | exact hY2, hS.weaken (List.sublist_append_right _ _), hY⟩
    · skip
      (conv => whnf)
      (refine drawS tabOk mixed [] (fun b => inF (worldH X W) b) [0, 1, 2, 5, 3, 4, 6, 7] (by kernel_rfl) ?_; rintro w1 rfl; replace hS := hS.drew)
      have hK := hS.ref (fun b => inF (worldH X W) b)
      (conv => whnf)
      refine hS.ldF 1 rfl (v := .slice a.ra a.rn a.rc) rfl hbx1 ?_
      (conv => whnf)
      refine hS.laXF 0 rfl rfl hbf1 ?_
      (conv => whnf)
      refine (ownRules_ok (ha.rules.no hS.ext) (by omega)).mono ?_
      rintro v w3 ⟨a', c', rfl, hx, ho, hfr⟩
      replace hS := hS.made hx ownL_local ho (fun g hg => hfr g (by simpa [ownL, own] using hg))
      replace hS := hS.perm List.perm_append_comm
      replace hK := hK.trans hx.of_no
      refine KeepC.mk hK ?_
      clear hx ho hfr
      replace hS : St w0 No w3 ([ownL 92 5 encRule (.slice a' a.rn c') a.rules, blk bf 69 (encF (faultL a.rules).1 (faultL a.rules).2), blk bx 38 (encSW a)] ++ (worldH X W ++ rworldH Y W R)) := hS
      have hslc := ownL_slc (G := fun _ => True) codRule (hS.get 0 rfl) fun _ _ => trivial
      (conv => whnf)
      refine (wrules_ok hslc (by omega) (fun _ b0 o0 h0 hb => hS.rowOut (foot_own (by rw [h0]; rfl)) hb) (St.stands hS hE2 hY.ok)).mono ?_
      rintro v w4 ⟨hF, X2, hX2, ht⟩
      replace hS := St.callAt hS ht
      replace hK := hK.trans ht.ext
      refine KeepC.mk hK ?_
      clear ht hslc
      (conv => whnf)
      refine (faulted3_ok hF (by omega) (by omega) (hE.ext hS.ext fun _ h => h.elim) (hh.ext hS.ext)).mono ?_
      rintro v w5 ⟨rfl, hx⟩
      replace hS := hS.no hx
      refine KeepC.mk (hK.trans hx.of_no) ?_
      clear hF hK
      rw [if_neg (show ¬ (faultL a.rules).1 = 0 by omega)] at hS
      replace hY := (St.rstands hS hY).le (Nat.le_add_right m 34) (Nat.le_add_right j 18)
      repeat' ((conv => whnf); first | refine RetC.mk ?_ | refine NzC.mk (by decide) ?_ | refine RngC.mk (by omega) (by omega) ?_ | refine IdxC.mk (by omega) (by omega) ?_ | refine brD (fun _ => ?_) (fun _ => ?_) | refine brND (fun _ => ?_) (fun _ => ?_) | refine brN (fun _ => ?_) (fun _ => ?_) | refine brI (fun _ => ?_) (fun _ => ?_))
      exact ⟨rfl, X2, Y, W, R, hX2, by first | rfl | exact hY2, hS.weaken (List.sublist_append_right _ _), hY⟩
  (conv => whnf)
  (refine drawS tabOk mixed [] (fun b => inF (worldH X W) b ∨ inF (rworldH Y W R) b) [0, 1, 2, 4, 5, 6, 3, 7, 8, 9] (by kernel_rfl) ?_; rintro w1 rfl; replace hS := hS.drew)
  have hK := hS.ref (fun b => inF (worldH X W) b ∨ inF (rworldH Y W R) b)
  (conv => whnf)
  refine hS.ldF 0 rfl rfl hbT ?_
  (conv => whnf)
  refine hS.ldF 0 rfl rfl hbT ?_
  (conv => whnf)
  refine (wdeliver_ok a.n (St.stands hS hE2 hY.ok)).mono ?_
  rintro v w2 ⟨rfl, X2, hX2, ht⟩
  replace hS := St.callAt hS ht
  replace hK := hK.trans (ht.ext.mono fun b h => .inl h)
  refine KeepC.mk hK ?_
  clear ht
  (conv => whnf)
  refine (rwdeliver_ok a.n (St.rstands hS hY)).mono ?_
  rintro v w3 ⟨rfl, Y2, R2, hY2, hk, hst⟩
  replace hS := St.callEnd hS hk
  replace hK := hK.trans (hk.ext.mono fun b h => .inr h)
  refine KeepC.mk hK ?_
  clear hk
  (conv => whnf)
  refine (coded3_same _ (wdeliver_code W a.n) _ (hE.ext hS.ext fun _ h => h.elim) (hh.ext hS.ext)).mono ?_
  rintro v w4 ⟨rfl, hx⟩
  replace hS := hS.no hx
  refine KeepC.mk (hK.trans hx.of_no) ?_
  repeat' ((conv => whnf); first | refine RetC.mk ?_ | refine NzC.mk (by decide) ?_ | refine RngC.mk (by omega) (by omega) ?_ | refine IdxC.mk (by omega) (by omega) ?_ | refine brD (fun _ => ?_) (fun _ => ?_) | refine brND (fun _ => ?_) (fun _ => ?_) | refine brN (fun _ => ?_) (fun _ => ?_) | refine brI (fun _ => ?_) (fun _ => ?_))
  exact ⟨rfl, X2, Y2, (W.deliver a.n).2, R2, by first | rfl | exact hX2, hY2, hS.weaken (List.sublist_append_right _ _), (hst.no hx).le (by omega) (by omega)⟩
end
end Go.Proofs.YtoaghhcjlfiflaaGreatDoor

namespace Go.Proofs.YtoaghhcjlfiflaaGreatDoor
open Go Ev
theorem worldSteps_ok {E : Nat → Addr} (W : World) (hE : Errs W E W.heap.size allErrs) (hh : Handle W) (a0 : Option Addr) (n0 c0 : Nat) (rules : List RuleS) (hr : Slc W 5 encRule (fun _ => True) a0 n0 rules) (a1 : Option Addr) (n1 c1 : Nat) (ys : List StepW) (hy : Slc W 10 encSW (StepW.Ok W) a1 n1 ys) :
    CallC Tryz.prog 6 #[.slice a0 n0 c0, .slice a1 n1 c1] W fun v w' => v = .bool true ∧ Ext No W w' := by
  have hE2 : Errs W E W.heap.size insErrs := hE.sub rfl
  have hcd := fault_code rules
  obtain rfl := hr.len
  have hl1 := hy.len
  have hm1 := hy.max
  have hm0 := hr.max
  refine fn_intro tabOk Tryz.func6 (by kernel_rfl) rfl Tryz.ntmps6 (Nat.le_of_ble_eq_true rfl) ?_
  (conv => whnf)
  refine (born_ok' hE2 (Nat.le_refl _)).mono ?_
  rintro v w1 ⟨rfl, hx⟩
  (conv => whnf)
  refine brD (fun h1 => ?_) (fun h1 => ?_)
  · repeat' ((conv => whnf); first | refine RetC.mk ?_ | refine NzC.mk (by decide) ?_ | refine RngC.mk (by omega) (by omega) ?_ | refine IdxC.mk (by omega) (by omega) ?_ | refine brD (fun _ => ?_) (fun _ => ?_) | refine brND (fun _ => ?_) (fun _ => ?_) | refine brN (fun _ => ?_) (fun _ => ?_) | refine brI (fun _ => ?_) (fun _ => ?_))
    exact ⟨rfl, hx⟩
  (conv => whnf)
  refine (stepsFit_ok 150 (hy.no hx)).mono ?_
  rintro v w2 ⟨b, rfl, hfit, hx2⟩
  replace hx := hx.trans hx2
  clear hx2
  cases b
  · repeat' ((conv => whnf); first | refine RetC.mk ?_ | refine NzC.mk (by decide) ?_ | refine RngC.mk (by omega) (by omega) ?_ | refine IdxC.mk (by omega) (by omega) ?_ | refine brD (fun _ => ?_) (fun _ => ?_) | refine brND (fun _ => ?_) (fun _ => ?_) | refine brN (fun _ => ?_) (fun _ => ?_) | refine brI (fun _ => ?_) (fun _ => ?_))
    exact ⟨rfl, hx⟩
  obtain ⟨hfit, hn1⟩ := hfit rfl
  (conv => whnf)
  refine (ownRules_ok (hr.no hx) (by omega)).mono ?_
  rintro v w3 ⟨a3, c3, rfl, hx3, ho3, _⟩
  replace hx := hx.trans hx3
  have hr3 := ownL_slc (G := fun _ => True) codRule ho3 (fun _ _ => trivial)
  by_cases h0 : (faultL rules).1 = 0
  · (conv => whnf)
    refine (wnew_ok hr3 (by omega) (hE2.ext hx fun _ h => h.elim) hx.size h0).mono ?_
    rintro v w4 ⟨A, rfl, hx4, hst4, hf4⟩
    have hS : St W No w4 (worldH A (.born rules)) := ((St.start W No).no hx).madeAll hx4 hst4.has hf4
    clear hst4 hf4 hx3 ho3 hr3
    (conv => whnf)
    refine (rulesFault_ok (hr.no hS.ext)).mono ?_
    rintro v w2 ⟨rfl, hx2⟩
    replace hS := hS.no hx2
    clear hx2
    (conv => whnf)
    refine hS.new (fun bf w' hbf hS => ?_)
    replace hS := hS.perm List.perm_append_comm
    (conv => whnf)
    refine hS.st 0 rfl (Nat.le_of_ble_eq_true rfl) rfl (fun w' hS => ?_)
    replace hS : St W No w' ([blk bf 69 (encF (faultL rules).1 (faultL rules).2)] ++ worldH A (.born rules)) := hS
    (conv => whnf)
    refine hS.ld 0 rfl rfl ?_
    (conv => whnf)
    refine brD (fun h => by omega) (fun h => ?_)
    clear h
    replace hS := hS.weaken (List.sublist_append_right _ _)
    (conv => whnf)
    refine (rnewWorld_ok (c := c0) hr h0 hS.ext).mono ?_
    rintro v w5 ⟨Y, R, rfl, hx5, hst5, hf5⟩
    replace hS := hS.madeAll hx5 hst5.has hf5
    clear hf5 hx hx4 hx5
    generalize WorldS.born rules = V at hS hst5
    (conv => whnf)
    refine loopR tabOk (fun σ w' r => ∃ (k : Nat) (A' : WorldA) (Y' : RWorldA) (V' : WorldS) (R' : RBys), σ = [(10, .int .i64 k), (9, .pointer (some ⟨Y.w, 0, none⟩)), (6, .pointer (some ⟨A.w, 0, none⟩)), (1, .slice a1 n1 c1)] ∧ r = n1 - k ∧ k ≤ n1 ∧ A'.w = A.w ∧ Y'.w = Y.w ∧ St W No w' (worldH A' V' ++ rworldH Y' V' R') ∧ RStands W (34 * k) (18 + 18 * k) w' Y' V' R')
      (σ' := [(10, .int .i64 ((0 : Nat) : Int)), (9, .pointer (some ⟨Y.w, 0, none⟩)), (6, .pointer (some ⟨A.w, 0, none⟩)), (1, .slice a1 n1 c1)]) (n := n1) ⟨rfl, rfl, rfl, rfl, trivial⟩ ⟨0, A, Y, V, R, rfl, rfl, Nat.zero_le _, rfl, rfl, hS, hst5⟩ ?_
    clear hS hst5
    rintro _ w1 r ⟨k, A', Y', V', R', rfl, rfl, hk, hA, hY, hS, hst⟩
    rw [← hA, ← hY]
    (conv => whnf)
    refine brD (fun h3 => ?_) (fun h3 => ?_)
    · have hk2 : k < n1 := by omega
      obtain ⟨b0, o0, x, hxk, hxok, rfl, hb0, hc⟩ := hy.at hk2
      (conv => whnf)
      refine IdxC.mk (by omega) (by omega) ?_
      (conv => whnf)
      refine hS.lar (l := encSW x) rfl hc id ?_
      (conv => whnf)
      refine (wstep_ok x hS hst (by omega) (by omega) hxok (hfit x (List.mem_of_getElem? hxk)) hE hh).mono ?_
      rintro v w2 ⟨rfl, A2, Y2, V2, R2, hA2, hY2, hS2, hst2⟩
      clear hS hst
      replace hst2 := hst2.le (m' := 34 * (k + 1)) (j' := 18 + 18 * (k + 1)) (by omega) (by omega)
      (conv => whnf)
      refine NzC.mk (by decide) ?_
      (conv => whnf)
      refine brD (fun h4 => ?_) (fun h4 => ?_)
      · rw [← hA2, ← hY2]
        (conv => whnf)
        refine (asWorld_ok hS2.has (St.stands (P := []) hS2 hE2 hst2.ok) hst2 (codes_of hE hh hS2.ext)).mono ?_
        rintro v w3 ⟨rfl, hx3⟩
        replace hS2 := hS2.no hx3
        replace hst2 := hst2.no hx3
        (conv => whnf)
        refine RngC.mk (by omega) (by omega) ?_
        (conv => whnf)
        refine LoopE.mk ⟨_, [(10, .int .i64 ((k + 1 : Nat) : Int)), (9, _), (6, _), (1, _)], ?_, ⟨rfl, rfl, rfl, rfl, trivial⟩, ⟨k + 1, A2, Y2, V2, R2, rfl, rfl, by omega, rfl, rfl, hS2, hst2⟩⟩
        omega
      · (conv => whnf)
        refine RngC.mk (by omega) (by omega) ?_
        (conv => whnf)
        refine LoopE.mk ⟨_, [(10, .int .i64 ((k + 1 : Nat) : Int)), (9, _), (6, _), (1, _)], ?_, ⟨rfl, rfl, rfl, rfl, trivial⟩, ⟨k + 1, A2, Y2, V2, R2, rfl, rfl, by omega, hA2, hY2, hS2, hst2⟩⟩
        omega
    · (conv => whnf)
      refine (asWorld_ok hS.has (St.stands (P := []) hS hE2 hst.ok) hst (codes_of hE hh hS.ext)).mono ?_
      rintro v w2 ⟨rfl, hx2⟩
      repeat' ((conv => whnf); first | refine RetC.mk ?_ | refine NzC.mk (by decide) ?_ | refine RngC.mk (by omega) (by omega) ?_ | refine IdxC.mk (by omega) (by omega) ?_ | refine brD (fun _ => ?_) (fun _ => ?_) | refine brND (fun _ => ?_) (fun _ => ?_) | refine brN (fun _ => ?_) (fun _ => ?_) | refine brI (fun _ => ?_) (fun _ => ?_))
      exact ⟨rfl, (hS.no hx2).ext⟩
  · (conv => whnf)
    refine (wnew_bad hr3 (hE2.ext hx fun _ h => h.elim) h0).mono ?_
    rintro v w4 ⟨⟨e, rfl, hF⟩, hx4⟩
    have hS := (St.start W No).no (hx.trans hx4)
    clear hx3 ho3 hr3
    (conv => whnf)
    refine (rulesFault_ok (hr.no hS.ext)).mono ?_
    rintro v w2 ⟨rfl, hx2⟩
    replace hS := hS.no hx2
    replace hF := hF.no hx2
    clear hx2
    have hX := hS.ext
    clear hS
    have hS := St.start w2 No
    (conv => whnf)
    refine hS.new (fun bf w' hbf hS => ?_)
    (conv => whnf)
    refine hS.st 0 rfl (Nat.le_of_ble_eq_true rfl) rfl (fun w' hS => ?_)
    replace hS : St w2 No w' [blk bf 69 (encF (faultL rules).1 (faultL rules).2)] := hS
    (conv => whnf)
    refine hS.ld 0 rfl rfl ?_
    (conv => whnf)
    refine brD (fun h => ?_) (fun h => by omega)
    (conv => whnf)
    refine hS.laX 0 rfl rfl ?_
    (conv => whnf)
    refine (faulted3_ok (hF.no hS.ext) (by omega) (by omega) (hE.ext (hX.trans hS.ext) fun _ h => h.elim) (hh.ext (hX.trans hS.ext))).mono ?_
    rintro v w5 ⟨rfl, hx5⟩
    repeat' ((conv => whnf); first | refine RetC.mk ?_ | refine NzC.mk (by decide) ?_ | refine RngC.mk (by omega) (by omega) ?_ | refine IdxC.mk (by omega) (by omega) ?_ | refine brD (fun _ => ?_) (fun _ => ?_) | refine brND (fun _ => ?_) (fun _ => ?_) | refine brN (fun _ => ?_) (fun _ => ?_) | refine brI (fun _ => ?_) (fun _ => ?_))
    exact ⟨rfl, hX.trans (hS.no hx5).ext⟩
theorem worldSteps_walk {E : Nat → Addr} (W : World) (args : List Value) (hE : Errs W E W.heap.size allErrs) (hh : Handle W) (ha : ArgsOk Tryz.prog W [22, 23] args) :
    CallC Tryz.prog 6 args.toArray W fun v w' => v = .bool true ∧ Ext No W w' := by
  obtain ⟨v0, args, rfl, h0, ha⟩ := ha.cons
  obtain ⟨v1, args, rfl, h1, ha⟩ := ha.cons
  obtain rfl := ha.nil
  obtain ⟨a0, n0, c0, xs, rfl, hx, _⟩ := arg_slice (d := 12) (sz := 5) Tryz.underlying22 (by kernel_rfl) (by decide) (dec_ruleW (by decide)) h0
  obtain ⟨a1, n1, c1, ys, rfl, hy, _⟩ := arg_slice (d := 12) (sz := 10) Tryz.underlying23 (by kernel_rfl) (by decide) (dec_step (c := 10) (d := 11) (Nat.le_refl _) rfl rfl) h1
  exact worldSteps_ok W hE hh a0 n0 c0 xs hx a1 n1 c1 ys (hy.imp fun _ h => h)
end Go.Proofs.YtoaghhcjlfiflaaGreatDoor
