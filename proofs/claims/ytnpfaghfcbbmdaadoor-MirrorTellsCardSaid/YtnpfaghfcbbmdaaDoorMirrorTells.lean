/-
  MirrorTells returns true whatever its arguments.
-/
import Derived.Test.YtnpfaghfcbbmdaaDoorRefMirror
import Derived.Test.YtnpfaghfcbbmdaaDoorAs
import Derived.Test.YtnpfaghfcbbmdaaDoorEvH
namespace Go.Proofs.YtnpfaghfcbbmdaaDoor
open Go Ev

/-- What the argument names: a life, and a slice of cells. -/
structure ToldS where
  life : Int
  a : Option Addr
  n : Nat
  c : Nat
  xs : List CellS
def encT (t : ToldS) : List Value := [.int .i64 t.life, .slice t.a t.n t.c]
theorem codT : Codec 2 encT := ⟨fun _ => rfl, fun _ => rfl, by decide⟩
def ToldS.Ok (W : World) (t : ToldS) : Prop := Slc W 10 encCell CellS.Ok t.a t.n t.xs

theorem dec_told {W : World} {d e f : Nat} (hd : 10 ≤ d) (he : e = d + 1) (hf : f = e + 1) : Dec Tryd.prog W f 70 encT (ToldS.Ok W) := by
  intro cs h
  obtain ⟨hl, hf⟩ := shp_struct hf Tryd.underlying70 h
  have hl2 : cs.length = 2 := hl.trans (by kernel_rfl)
  clear hl h
  have c1 : Tryd.prog.cellsOf 3 = 1 := by kernel_rfl
  have c2 : Tryd.prog.cellsOf 53 = 1 := by kernel_rfl
  have h0 : Shp Tryd.prog W e 3 ((cs.drop 0).take (Tryd.prog.cellsOf 3)) := hf 0 _ rfl
  have h1 : Shp Tryd.prog W e 53 ((cs.drop 1).take (Tryd.prog.cellsOf 53)) := hf 1 _ rfl
  clear hf
  rw [c1] at h0
  rw [c2] at h1
  obtain ⟨x, y, rfl⟩ := len2 hl2
  simp only [List.drop_zero, List.drop_succ_cons, List.take_succ_cons, List.take_zero] at h0 h1
  obtain ⟨i, hi, _⟩ := shp_int he Tryd.underlying3 h0
  simp only [List.cons.injEq, and_true] at hi
  obtain ⟨a, n, c, rfl⟩ := shp_slice he Tryd.underlying53 h1
  obtain ⟨xs, hx, _⟩ := shp_slc (sz := 10) he Tryd.underlying53 (by kernel_rfl) (by decide) (dec_cell hd) h1
  exact ⟨⟨i, a, n, c, xs⟩, by simp [encT, hi], hx⟩

/-- Two things of the call's own become one. -/
theorem mkRefM {w0 w : World} {H : List Ent} {bm g c : Nat} {life : Int} {l : List CellS} (h : St w0 No w H) {i j : Nat} (hi : H[i]? = some (blk bm 69 [.int .i64 life, .slice (some ⟨g, 0, none⟩) 32 c])) (hj : H[j]? = some (ownL 59 10 encCell (.slice (some ⟨g, 0, none⟩) 32 c) l)) (hne : i ≠ j) {K : List Ent} (hs : K.Sublist H)
    (hK : ∀ f ∈ K, ∀ b ∈ f.foot, b ≠ bm ∧ b ≠ g) : St w0 No w (K ++ [refM bm g c ⟨life, l⟩]) := by
  have hbg : bm ≠ g := by
    have := pairwise_at apart_symm h.apart hi hj hne bm (by simp [blk])
    simpa [ownL, own, Value.ownBlock] using this
  refine (h.weaken hs).add refM_local ⟨hbg, h.get i hi, h.get j hj⟩ ?_ ?_
  · intro b hb
    simp only [refM, List.mem_cons, List.not_mem_nil, or_false] at hb
    rcases hb with rfl | rfl
    · exact h.may _ (List.mem_of_getElem? hi) b (by simp [blk])
    · exact h.may _ (List.mem_of_getElem? hj) b (by simp [ownL, own, Value.ownBlock])
  · intro f hf b hb hb'
    simp only [refM, List.mem_cons, List.not_mem_nil, or_false] at hb'
    obtain ⟨h1, h2⟩ := hK f hf b hb
    rcases hb' with rfl | rfl
    · exact h1 rfl
    · exact h2 rfl

theorem ref_build (g c : Nat) (w : World) : (Instr.build 69 #[(1, .slice (some ⟨g, 0, none⟩) 32 c)]).run Tryd.prog w = .ok (.agg #[.int .i64 0, .slice (some ⟨g, 0, none⟩) 32 c]) w := by kernel_rfl

theorem coded1_same {E : Nat → Addr} {n : Nat} (k : Nat) (hk : k < 12) (w : World) (hE : Errs w E n allErrs) (hh : Handle w) :
    CallC Tryd.prog 17 #[errV E k, .int .i64 k] w fun v w' => v = .bool true ∧ Ext No w w' := by
  have h := coded1_ok k k hk w hE hh
  rwa [decide_eq_true rfl] at h
theorem sameCells_same {w : World} {G : CellS → Prop} {a b : Option Addr} {n m c d : Nat} {xs : List CellS} (hx : Slc w 10 encCell G a n xs) (hy : Slc w 10 encCell G b m xs) :
    CallC Tryd.prog 36 #[.slice a n c, .slice b m d] w fun v w' => v = .bool true ∧ Ext No w w' := by
  have h := sameCells_ok (c := c) (d := d) hx hy
  rwa [decide_eq_true rfl] at h
theorem same_same {w : World} {G : CellS → Prop} {a b : Option Addr} {n m c d : Nat} {xs : List CellS} (hx : Slc w 10 encCell G a n xs) (hy : Slc w 10 encCell G b m xs) :
    CallC Tryd.prog 38 #[.slice a n c, .slice b m d] w fun v w' => v = .bool true ∧ Ext No w w' := by
  have h := same_ok (c := c) (d := d) hx hy
  rwa [decide_eq_true rfl] at h
theorem Ev.St.ownNe {w0 w : World} {S : Nat → Prop} {H : List Ent} (h : St w0 S w H) (i j : Nat) {α : Type} {b : Nat} {t e : TypeId} {cs : List Value} {sz n c : Nat} {enc : α → List Value} {a : Option Addr} {xs : List α} (hi : H[i]? = some (Ev.blk b t cs)) (hj : H[j]? = some (ownL e sz enc (.slice a n c) xs)) (hne : i ≠ j) : ∀ b0 o0, a = some ⟨b0, o0, none⟩ → b0 ≠ b := by
  rintro b0 o0 rfl rfl
  have := pairwise_at apart_symm h.apart hi hj hne b0 (by simp [Ev.blk])
  simp [ownL, own, Value.ownBlock] at this
theorem refM_life {w : World} {bm g c : Nat} {m : MirS} (h : (refM bm g c m).holds w) : w.cell? ⟨bm, 0, none⟩ = some (.int .i64 m.life) := h.2.1.cell 0
theorem refM_l {w : World} {bm g c : Nat} {m : MirS} (h : (refM bm g c m).holds w) : w.cell? ⟨bm, 1, none⟩ = some (.slice (some ⟨g, 0, none⟩) 32 c) := h.2.1.cell 1
theorem refM_slc {w : World} {bm g c : Nat} {m : MirS} (h : (refM bm g c m).holds w) (hm : m.cells.length = 32) : Slc w 10 encCell (fun _ => True) (some ⟨g, 0, none⟩) 32 m.cells := ownL_slc codCell h.2.2 fun _ _ => trivial

theorem mirrorTells_ok {E : Nat → Addr} (W : World) (hE : Errs W E W.heap.size allErrs) (hh : Handle W) (a0 : Option Addr) (n0 c0 : Nat) (ts : List ToldS) (hx : Slc W 2 encT (ToldS.Ok W) a0 n0 ts) :
    CallC Tryd.prog 9 #[.slice a0 n0 c0] W fun v w' => v = .bool true ∧ Ext No W w' := by
  have hm0 := hx.max
  have hl0 := hx.len
  refine fn_intro tabOk Tryd.func9 (by kernel_rfl) rfl Tryd.ntmps9 (Nat.le_of_ble_eq_true rfl) ?_
  have hS := St.start W No
  (conv => whnf)
  refine (mirrored_ok W (hE.sub rfl) (Nat.le_refl _)).mono ?_
  rintro v w' ⟨rfl, hx'⟩
  replace hS := hS.no hx'
  clear hx'
  (conv => whnf)
  refine brD (fun h1 => ?_) (fun h1 => ?_)
  · repeat' ((conv => whnf); first | refine RetC.mk ?_ | refine NzC.mk (by decide) ?_ | refine RngC.mk (by omega) (by omega) ?_ | refine IdxC.mk (by omega) (by omega) ?_ | refine brD (fun _ => ?_) (fun _ => ?_) | refine brND (fun _ => ?_) (fun _ => ?_) | refine brN (fun _ => ?_) (fun _ => ?_) | refine brI (fun _ => ?_) (fun _ => ?_))
    exact ⟨rfl, hS.ext⟩
  (conv => whnf)
  refine (new_ok _).mono ?_
  rintro v w' ⟨ba, rfl, hb, hx', hB⟩
  replace hS := hS.made hx' (blk_local _ _ _) hB (by simp [blk]; exact ⟨hb, hB.lt⟩)
  clear hx' hB hb
  (conv => whnf)
  refine (empty_ok _).mono ?_
  rintro v w' ⟨g, cg, rfl, hx', hO, hF⟩
  replace hS := hS.madeL hx' hO hF
  clear hx' hO hF
  (conv => whnf)
  refine hS.new (fun bm w' hbm hS => ?_)
  have fa := hS.fresh 0 rfl
  replace hS := mkRefM (K := [blk ba 99 (encM ⟨0, emptyCells⟩)]) hS (i := 2) (j := 1) rfl rfl (by decide) (.cons_cons _ (List.nil_sublist _)) (by
    intro f hf b hb
    obtain rfl := List.mem_singleton.1 hf
    obtain rfl : b = ba := by simpa [blk] using hb
    have h1 := pairwise_at apart_symm hS.apart (i := 0) (j := 1) rfl rfl (by decide) b (by simp [blk])
    have h2 := pairwise_at apart_symm hS.apart (i := 0) (j := 2) rfl rfl (by decide) b (by simp [blk])
    exact ⟨by simpa [blk] using h2, by simpa [ownL, own, Value.ownBlock] using h1⟩)
  (conv => whnf)
  refine loopR tabOk (fun σ w q => ∃ (i : Nat) (m : MirS) (g cg : Nat), σ = [(6, .int .i64 i), (5, .pointer (some ⟨bm, 0, none⟩)), (4, .pointer (some ⟨ba, 0, none⟩)), (0, .slice a0 n0 c0)] ∧ q = n0 - i ∧ i ≤ n0 ∧ m.cells.length = 32 ∧ St W No w [blk ba 99 (encM m), refM bm g cg m])
    (σ' := [(6, .int .i64 ((0 : Nat) : Int)), (5, .pointer (some ⟨bm, 0, none⟩)), (4, .pointer (some ⟨ba, 0, none⟩)), (0, .slice a0 n0 c0)]) (n := n0) ⟨rfl, rfl, rfl, rfl, trivial⟩ ⟨0, ⟨0, emptyCells⟩, g, cg, rfl, rfl, Nat.zero_le _, emptyCells_len, hS⟩ ?_
  clear hS
  rintro _ w q ⟨i, m, g, cg, rfl, rfl, hi, hm, hS⟩
  (conv => whnf)
  refine brD (fun h3 => ?_) (fun h3 => ?_)
  · have hin : i < n0 := by omega
    obtain ⟨b0, o0, t, hti, hxs, rfl, hb0, hct⟩ := hx.at hin
    have hxs : Slc W 10 encCell CellS.Ok t.a t.n t.xs := hxs
    (conv => whnf)
    refine IdxC.mk (by omega) (by omega) ?_
    (conv => whnf)
    refine hS.ldr (hct.one 1 rfl) id ?_
    (conv => whnf)
    refine brD (fun h4 => ?_) (fun h4 => ?_)
    · repeat' ((conv => whnf); first | refine RetC.mk ?_ | refine NzC.mk (by decide) ?_ | refine RngC.mk (by omega) (by omega) ?_ | refine IdxC.mk (by omega) (by omega) ?_ | refine brD (fun _ => ?_) (fun _ => ?_) | refine brND (fun _ => ?_) (fun _ => ?_) | refine brN (fun _ => ?_) (fun _ => ?_) | refine brI (fun _ => ?_) (fun _ => ?_))
      exact ⟨rfl, hS.ext⟩
    (conv => whnf)
    have hTb : ¬ (W.heap.size ≤ b0) := by omega
    have fr := (hS.may _ (List.mem_of_getElem? (i := 1) rfl) bm (by simp [refM])).1.resolve_left id
    have fg := (hS.may _ (List.mem_of_getElem? (i := 1) rfl) g (by simp [refM])).1.resolve_left id
    have hsrc : 0 < t.n → ∀ b1 o1, t.a = some ⟨b1, o1, none⟩ → b1 ≠ bm ∧ b1 ≠ g := by
      intro hn b1 o1 ha
      obtain ⟨b2, o2, _, _, _, h2, h3, _⟩ := hxs.at hn
      rw [ha] at h2
      cases h2
      omega
    have hm' := MirS.tell_len hm t.life t.xs
    have hco := MirS.tell_code m t.life t.xs
    have c2 := fun (w' : World) (h : (refM bm g cg m).holds w') (hx : Slc w' 10 encCell CellS.Ok t.a t.n t.xs) => refTell_ok (c := t.c) t.life h hm hx hsrc
    refine DrawC.cut (fun σ w => ∃ g cg, σ = [(83, .bool false), (6, .int .i64 i), (5, .pointer (some ⟨bm, 0, none⟩)), (4, .pointer (some ⟨ba, 0, none⟩)), (0, .slice (some ⟨b0, o0, none⟩) n0 c0)] ∧ St W No w [blk ba 99 (encM (m.tell t.life t.xs).2), refM bm g cg (m.tell t.life t.xs).2]) ?_ ?_
    · refine drawT tabOk mixed [33, 42] (fun b => W.heap.size ≤ b) (.take 0 (.take 1 (.take 2 (.take 3 (.take 4 (.take 5 (.take 6 (.take 7 (.take 8 (.take 9 (.take 10 (.take 13 (.take 14 (.take 15 (.take 16 (.take 17 (.take 18 (.take 19 (.take 20 (.take 21 (.take 22 (.take 23 (.alt 11 (.alt 12 (.alt 24 (.alt 25 (.take 26 (.take 27 (.take 28 (.take 30 (.take 31 (.take 32 (.alt 29 (.alt 33 (.take 34 (.take 35 (.take 36 (.take 37 (.take 39 (.take 40 (.take 41 (.alt 38 (.alt 42 (.alt 43 (.take 44 (.take 45 .fin)) .fin) .fin) (.alt 42 (.alt 38 (.alt 43 (.take 44 (.take 45 .fin)) .fin) .fin) .fin))))))))) .fin) (.alt 33 (.alt 29 (.take 34 (.take 35 (.take 36 (.take 37 (.take 39 (.take 40 (.take 41 (.alt 38 (.alt 42 (.alt 43 (.take 44 (.take 45 .fin)) .fin) .fin) (.alt 42 (.alt 38 (.alt 43 (.take 44 (.take 45 .fin)) .fin) .fin) .fin))))))))) .fin) .fin)))))))) .fin) .fin) .fin) .fin))))))))))))))))))))))) (by kernel_rfl) ?_
      intro w1 hw1
      replace hS : St W No w1 [blk ba 99 (encM m), refM bm g cg m] := by subst hw1; exact hS.drew
      have hk : Ext (fun b => W.heap.size ≤ b) w1 w1 := Ext.refl _ _
      clear hw1
      repeat' ((conv => whnf); first | refine RetC.mk ?_ | refine NzC.mk (by decide) ?_ | refine RngC.mk (by omega) (by omega) ?_ | refine IdxC.mk (by omega) (by omega) ?_ | refine hS.ldrF (hct.one 0 rfl) id hTb ?_ | refine hS.ldrF (hct.one 1 rfl) id hTb ?_ | refine brD (fun _ => ?_) (fun _ => ?_) | refine brND (fun _ => ?_) (fun _ => ?_) | refine brN (fun _ => ?_) (fun _ => ?_) | refine brI (fun _ => ?_) (fun _ => ?_))
      refine (ownCells_ok (hxs.no hS.ext) (by omega)).mono ?_
      rintro v w' ⟨a', c', rfl, hx', hO, hF⟩
      replace hS := hS.madeL hx' hO hF
      replace hk := hk.trans hx'.of_no
      refine KeepC.mk hk ?_
      (conv => whnf)
      refine (tell_ok t.life (hS.blk 0 rfl) hm ((hE.sub rfl).ext hS.ext fun _ h => h.elim) fa (ownL_slc (G := fun _ => True) codCell (hS.get 2 rfl) fun _ _ => trivial) (fun _ => hS.ownNe 0 2 rfl rfl (by decide))).mono ?_
      rintro v w' ⟨rfl, hx', hB⟩
      replace hS := hS.upd 0 rfl hx' (fun c hc => by subst hc; exact List.mem_singleton.2 rfl) (blk_local _ _ _) hB (fun c hc => .inl hc)
      replace hk := hk.trans (hx'.mono (fun c hc => by subst hc; exact fa))
      refine KeepC.mk hk ?_
      (conv => whnf)
      refine (c2 _ (hS.get 1 rfl) (hxs.no hS.ext)).mono ?_
      rintro v w' ⟨g', c1, rfl, hx', hM, hg'⟩
      replace hS := hS.upd 1 rfl hx' (fun c hc => by simp only [refM, List.mem_cons, List.not_mem_nil, or_false]; exact hc) refM_local hM (by
        intro b hb
        simp only [refM, List.mem_cons, List.not_mem_nil, or_false] at hb ⊢
        rcases hb with rfl | rfl
        · exact .inl (.inl rfl)
        · rcases hg' with rfl | h
          · exact .inl (.inr rfl)
          · exact .inr h)
      replace hk := hk.trans (hx'.mono (fun c hc => by rcases hc with rfl | rfl; exact fr; exact fg))
      refine KeepC.mk hk ?_
      (conv => whnf)
      refine (coded1_same _ hco _ (hE.ext hS.ext fun _ h => h.elim) (hh.ext hS.ext)).mono ?_
      rintro v w' ⟨rfl, hx'⟩
      replace hS := hS.no hx'
      replace hk := hk.trans hx'.of_no
      refine KeepC.mk hk ?_
      repeat' ((conv => whnf); first | refine RetC.mk ?_ | refine NzC.mk (by decide) ?_ | refine RngC.mk (by omega) (by omega) ?_ | refine IdxC.mk (by omega) (by omega) ?_ | refine And.intro ?_ ?_ | (refine (life_ok (hS.blk 0 rfl)).mono ?_; rintro v w' ⟨rfl, rfl⟩; refine KeepC.mk hk ?_) | (refine ldc (refM_life (hS.get 1 rfl)) ?_; refine KeepC.mk hk ?_) | (refine ldc (refM_l (hS.get 1 rfl)) ?_; refine KeepC.mk hk ?_) | (refine (cells_ok (hS.blk 0 rfl) hm').mono ?_; rintro v w' ⟨a4, c4, rfl, hx', hO, hF⟩; replace hS := hS.madeL hx' hO hF; replace hk := hk.trans hx'.of_no; refine KeepC.mk hk ?_) | (refine (sameCells_same (ownL_slc (G := fun _ => True) codCell (hS.get 3 rfl) fun _ _ => trivial) (refM_slc (hS.get 1 rfl) hm')).mono ?_; rintro v w' ⟨rfl, hx'⟩; replace hS := hS.no hx'; replace hk := hk.trans hx'.of_no; refine KeepC.mk hk ?_) | refine brD (fun _ => ?_) (fun _ => ?_) | refine brND (fun _ => ?_) (fun _ => ?_) | refine brN (fun _ => ?_) (fun _ => ?_) | refine brI (fun _ => ?_) (fun _ => ?_))
      all_goals first | exact absurd rfl (by assumption) | skip
      all_goals exact CutE.mk ⟨[(83, .bool false), (6, _), (5, _), (4, _), (0, _)], ⟨rfl, rfl, rfl, rfl, rfl, trivial⟩, g', c1, rfl, hS.keep 2⟩
    · clear hS c2 hsrc fr fg
      rintro _ w ⟨g, cg, rfl, hS⟩
      generalize (m.tell t.life t.xs).2 = m' at hS hm'
      (conv => whnf)
      refine (flows_ok (hS.blk 0 rfl) hm').mono ?_
      rintro v w' ⟨a4, c4, rfl, hx', hO, hF⟩
      replace hS := hS.madeL hx' hO hF
      (conv => whnf)
      refine ldc (refM_l (hS.get 1 rfl)) ?_
      (conv => whnf)
      refine (flowsOf_ok (refM_slc (hS.get 1 rfl) hm') (by decide)).mono ?_
      rintro v w' ⟨a5, c5, rfl, hx', hO, hF⟩
      replace hS := hS.madeL hx' hO hF
      repeat' ((conv => whnf); first | refine RetC.mk ?_ | refine NzC.mk (by decide) ?_ | refine RngC.mk (by omega) (by omega) ?_ | refine IdxC.mk (by omega) (by omega) ?_ | (refine drawL tabOk mixed [] No [0, 1, 2, 3, 4, 5, 6, 7, 8] rfl (by kernel_rfl) ?_; rintro w1 rfl; replace hS := hS.drew) | (refine drawL tabOk mixed [] No [0, 1, 2, 3, 4, 5, 6, 7, 8, 9, 10, 13, 14, 15, 16, 17, 18, 19, 20, 21, 22, 23, 11, 12, 24, 25, 26, 27, 28, 30, 31, 32, 33, 29, 34, 35, 36, 37, 39, 40, 41, 42, 38, 43, 44, 45] rfl (by kernel_rfl) ?_; rintro w1 rfl; replace hS := hS.drew) | (refine drawL tabOk mixed [] No [0, 1, 2, 3, 4, 5, 6, 8, 9, 10, 11, 7, 12, 13, 14] rfl (by kernel_rfl) ?_; rintro w1 rfl; replace hS := hS.drew) | refine ldFc (refM_l (hS.get 1 rfl)) id ?_ | refine brD (fun _ => ?_) (fun _ => ?_) | refine brND (fun _ => ?_) (fun _ => ?_) | refine brN (fun _ => ?_) (fun _ => ?_) | refine brI (fun _ => ?_) (fun _ => ?_))
      · exact absurd rfl (by assumption)
      refine (cells_ok (hS.blk 0 rfl) hm').mono ?_
      rintro v w' ⟨a6, c6, rfl, hx', hO, hF⟩
      replace hS := hS.madeL hx' hO hF
      refine KeepC.mk hx' ?_
      (conv => whnf)
      refine (same_same (ownL_slc (G := fun _ => True) codCell (hS.get 4 rfl) fun _ _ => trivial) (refM_slc (hS.get 1 rfl) hm')).mono ?_
      rintro v w' ⟨rfl, hx2⟩
      replace hS := hS.no hx2
      refine KeepC.mk (hx'.trans hx2) ?_
      (conv => whnf)
      have hfl := flowsOf_len m'.cells
      have sF := ownL_slc (G := fun _ => True) codFlow (hS.get 2 rfl) fun _ _ => trivial
      have sG := ownL_slc (G := fun _ => True) codFlow (hS.get 3 rfl) fun _ _ => trivial
      generalize flowsOf m'.cells = fs at sF sG hfl
      replace hS := hS.keep 2
      rename_i w0 _ _ _
      refine loopR tabOk (fun σ w2 q => ∃ k : Nat, σ = [(9, .int .i64 k), (8, .slice a5 fs.length c5), (7, .slice a4 fs.length c4), (6, .int .i64 i), (5, .pointer (some ⟨bm, 0, none⟩)), (4, .pointer (some ⟨ba, 0, none⟩)), (0, .slice (some ⟨b0, o0, none⟩) n0 c0)] ∧ q = fs.length - k ∧ k ≤ fs.length ∧ Ext No w' w2 ∧ St W No w2 [blk ba 99 (encM m'), refM bm g cg m'])
        (σ' := [(9, .int .i64 ((0 : Nat) : Int)), (8, .slice a5 fs.length c5), (7, .slice a4 fs.length c4), (6, .int .i64 i), (5, .pointer (some ⟨bm, 0, none⟩)), (4, .pointer (some ⟨ba, 0, none⟩)), (0, .slice (some ⟨b0, o0, none⟩) n0 c0)]) (n := fs.length) ⟨rfl, rfl, rfl, rfl, rfl, rfl, rfl, trivial⟩ ⟨0, rfl, rfl, Nat.zero_le _, Ext.refl _ _, hS⟩ ?_
      clear hS
      rintro _ w2 q ⟨k, rfl, rfl, hk, hx3, hS⟩
      (conv => whnf)
      refine brD (fun h5 => ?_) (fun h5 => ?_)
      · obtain ⟨b1, o1, x, hxk, _, hb1, _, hc⟩ := (sF.no hx3).at (k := k) (by omega)
        obtain ⟨b2, o2, y, hyk, _, hb2, _, hd⟩ := (sG.no hx3).at (k := k) (by omega)
        rw [hxk] at hyk
        cases hyk
        cases hb1
        cases hb2
        repeat' ((conv => whnf); first | refine RetC.mk ?_ | refine NzC.mk (by decide) ?_ | refine RngC.mk (by omega) (by omega) ?_ | refine IdxC.mk (by omega) (by omega) ?_ | (refine drawS tabOk mixed [] No [0, 1, 2, 3, 4, 5, 6, 7, 8] (by kernel_rfl) ?_; rintro w1 rfl; replace hS := hS.drew) | refine laFc (l := encFlow x) rfl hc id ?_ | refine laFc (l := encFlow x) rfl hd id ?_ | refine neFlow ?_ | refine brD (fun _ => ?_) (fun _ => ?_) | refine brND (fun _ => ?_) (fun _ => ?_) | refine brN (fun _ => ?_) (fun _ => ?_) | refine brI (fun _ => ?_) (fun _ => ?_))
        · exact absurd rfl (by assumption)
        refine LoopE.mk ⟨_, [(9, .int .i64 ((k + 1 : Nat) : Int)), (8, _), (7, _), (6, _), (5, _), (4, _), (0, _)], ?_, ⟨rfl, rfl, rfl, rfl, rfl, rfl, rfl, trivial⟩, ⟨k + 1, rfl, rfl, by omega, ?_, hS⟩⟩
        · omega
        · exact hx3.trans (Ext.drawn _ _ _)
      · (conv => whnf)
        refine RngC.mk (by omega) (by omega) ?_
        (conv => whnf)
        exact LoopE.mk ⟨_, [(6, .int .i64 ((i + 1 : Nat) : Int)), (5, _), (4, _), (0, _)], by omega, ⟨rfl, rfl, rfl, rfl, trivial⟩, ⟨i + 1, m', g, cg, rfl, rfl, by omega, hm', hS⟩⟩
  · repeat' ((conv => whnf); first | refine RetC.mk ?_ | refine NzC.mk (by decide) ?_ | refine RngC.mk (by omega) (by omega) ?_ | refine IdxC.mk (by omega) (by omega) ?_ | refine brD (fun _ => ?_) (fun _ => ?_) | refine brND (fun _ => ?_) (fun _ => ?_) | refine brN (fun _ => ?_) (fun _ => ?_) | refine brI (fun _ => ?_) (fun _ => ?_))
    exact ⟨rfl, hS.ext⟩

theorem mirrorTells_walk {E : Nat → Addr} (W : World) (args : List Value) (hE : Errs W E W.heap.size allErrs) (hh : Handle W) (ha : ArgsOk Tryd.prog W [66] args) :
    CallC Tryd.prog 9 args.toArray W fun v w' => v = .bool true ∧ Ext No W w' := by
  obtain ⟨v0, args, rfl, h0, ha⟩ := ha.cons
  obtain rfl := ha.nil
  obtain ⟨d, hd⟩ : ∃ d, 10 ≤ d := ⟨10, Nat.le_refl _⟩
  obtain ⟨e, he⟩ : ∃ e, e = d + 1 := ⟨_, rfl⟩
  obtain ⟨f, hf⟩ : ∃ f, f = e + 1 := ⟨_, rfl⟩
  obtain ⟨a0, n0, c0, xs, rfl, hx, _⟩ := arg_slice (d := f) (sz := 2) Tryd.underlying66 (by kernel_rfl) (by decide) (dec_told hd he hf) h0
  exact mirrorTells_ok W hE hh a0 n0 c0 xs hx
end Go.Proofs.YtnpfaghfcbbmdaaDoor
