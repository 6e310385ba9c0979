/-
  Texts of this claim, joined: Teller, TellerB, RefTeller, TellL, RefTellN, MapT, Track, Role, Number, Sum, Byt, Cell.
-/
import Derived.Test.YtoaghhcjlfiflaaGreatDoorPlayAgainD
import Derived.Laws.Tables
import Derived.Laws.OwnMore
import Derived.Laws.StructEq
import Derived.Laws.Cover2

/-
  Package teller, walked: New, the closure of Next.
-/
namespace Go.Proofs.YtoaghhcjlfiflaaGreatDoor
open Go Ev Go.Instr

/-! ### A map of numbers that are there -/
def bEnt (k : Nat × Nat) : MapEntry := ⟨.int .i64 (k.1 : Int), .bool true, k.2⟩
def bFind (p : Nat) : List (Nat × Nat) → Nat → Option (Nat × Value)
  | [], _ => none
  | (a, _) :: r, n => if p = a then some (n, .bool true) else bFind p r (n + 1)
theorem bFind_no {p : Nat} : ∀ {l : List (Nat × Nat)} {n : Nat}, p ∉ l.map Prod.fst → bFind p l n = none
  | [], _, _ => rfl
  | (a, _) :: r, n, h => by
    simp only [List.map_cons, List.mem_cons, not_or] at h
    unfold bFind
    rw [if_neg h.1]
    exact bFind_no h.2
theorem bFind_yes {p : Nat} : ∀ {l : List (Nat × Nat)} {n : Nat}, p ∈ l.map Prod.fst → ∃ i, bFind p l n = some (i, .bool true)
  | [], _, h => by simp at h
  | (a, _) :: r, n, h => by
    unfold bFind
    by_cases hp : p = a
    · exact ⟨n, if_pos hp⟩
    · rw [if_neg hp]
      refine bFind_yes ?_
      simpa [hp] using h
theorem findNow_b (p : Nat) : ∀ (l : List (Nat × Nat)) (n : Nat), findNow (.int .i64) (.int .i64 (p : Int)) (l.map bEnt) n = some (bFind p l n)
  | [], _ => rfl
  | (a, c) :: r, n => by
    have ih := findNow_b p r (n + 1)
    rw [List.map_cons]
    unfold findNow bFind
    by_cases hp : p = a
    · subst hp
      simp [sameNow, bEnt]
    · have : ¬ (p : Int) = (a : Int) := by omega
      have h2 : sameNow (.int .i64) (.int .i64 (p : Int)) (bEnt (a, c)).key = some false := by
        simp [sameNow, bEnt, this]
      rw [h2, if_neg hp]
      exact ih
theorem findKey_b (p : Nat) (w : World) (l : List (Nat × Nat)) : (findKey 3 (.int .i64 (p : Int)) (l.map bEnt)).run Tryz.prog w = .ok (bFind p l 0) w := by
  have hu := Tryz.underlying3
  have h0 : (findKey 3 (.int .i64 (p : Int)) (l.map bEnt)) = (do match findNow (← underlying 3) (.int .i64 (p : Int)) (l.map bEnt) 0 with | some r => pure r | none => findAsking 3 (.int .i64 (p : Int)) (l.map bEnt)) := rfl
  rw [h0, Sem.run_bind, run_underlying hu, Result.andThen_ok, findNow_b]
  rfl
theorem ckInt (e : Bool) (a : Int) (w : World) : (checkKey e 10000 3 (.int .i64 a)).run Tryz.prog w = .ok () w := by cases e <;> kernel_rfl
def mapB (r : Nat) (ks : List Nat) : Ent := ⟨[r], fun w => ∃ (l : List (Nat × Nat)) (c : Nat), l.map Prod.fst = ks ∧ w.heap[r]? = some (.map (l.map bEnt).toArray c)⟩
theorem mapB_local (r : Nat) (ks : List Nat) : (mapB r ks).Local := fun w w' h hb => by
  have := h r (by simp [mapB])
  simpa [mapB, this] using hb
theorem bLook {w : World} {r : Nat} {ks : List Nat} (p : Nat) (h : (mapB r ks).holds w) : (Instr.lookup 224 (.map (some r)) (.int .i64 (p : Int)) false).run Tryz.prog w = .ok (.bool (decide (p ∈ ks))) w := by
  obtain ⟨l, c, rfl, hb⟩ := h
  have hm := Tryz.underlying224
  have hg : (getObj r).run Tryz.prog w = .ok (.map (l.map bEnt).toArray c) w := by simp [getObj, Sem.run, hb]
  have hz : (zeroValue 4).run Tryz.prog w = .ok (.bool false) w := by kernel_rfl
  have hk := findKey_b p w l
  simp only [Instr.lookup, Sem.run_bind, run_underlying hm, Result.andThen_ok, hg, Sem.run_pure, ckInt, hk]
  by_cases hp : p ∈ l.map Prod.fst
  · obtain ⟨i, h1⟩ := bFind_yes (n := 0) hp
    rw [decide_eq_true hp]
    simp [h1]
  · rw [decide_eq_false hp]
    simp [bFind_no hp, hz]
theorem Ev.St.lookB {w0 w : World} {S : Nat → Prop} {H : List Ent} (h : St w0 S w H) (i : Nat) {r : Nat} {ks : List Nat} {p : Nat} {k : Value → World → Prop} (hi : H[i]? = some (mapB r ks)) (hk : k (.bool (decide (p ∈ ks))) w) :
    RunC Tryz.prog (Instr.lookup 224 (.map (some r)) (.int .i64 (p : Int)) false) w k := ⟨_, _, bLook p (h.get i hi), hk⟩
theorem Ev.St.mkMapB {w0 w : World} {S : Nat → Prop} {H : List Ent} {k : Value → World → Prop} (h : St w0 S w H) (hk : ∀ r w', w0.heap.size ≤ r → St w0 S w' (H ++ [mapB r []]) → k (.map (some r)) w') : RunC Tryz.prog (Instr.makeMap 224 none) w k := by
  refine ⟨.map (some w.heap.size), { w with heap := w.heap.push (.map #[] 0) }, rfl, hk _ _ h.ext.size (h.made ⟨rfl, rfl, rfl, by simp, fun i hi _ => ?_⟩ (mapB_local _ _) ?_ ?_)⟩
  · show (w.heap.push _)[i]? = _
    rw [Array.getElem?_push, if_neg (by omega)]
  · refine ⟨[], 0, rfl, ?_⟩
    show (w.heap.push _)[w.heap.size]? = _
    rw [Array.getElem?_push, if_pos rfl]
    rfl
  · intro b hb
    obtain rfl : b = w.heap.size := by simpa [mapB] using hb
    simp
theorem Ev.St.insB {w0 w : World} {S : Nat → Prop} {H : List Ent} (h : St w0 S w H) (i : Nat) {r : Nat} {ks : List Nat} {p : Nat} {k : World → Prop} (hi : H[i]? = some (mapB r ks)) (hn : p ∉ ks)
    (hk : ∀ w', St w0 S w' (H.set i (mapB r (ks ++ [p]))) → k w') : RunU Tryz.prog (Instr.mapUpdate 224 (.map (some r)) (.int .i64 (p : Int)) (.bool true)) w k := by
  obtain ⟨l, c, rfl, hb⟩ := h.get i hi
  have hm := Tryz.underlying224
  have hg : (getObj r).run Tryz.prog w = .ok (.map (l.map bEnt).toArray c) w := by simp [getObj, Sem.run, hb]
  have hkk := findKey_b p w l
  rw [bFind_no hn] at hkk
  have hrun : (Instr.mapUpdate 224 (.map (some r)) (.int .i64 (p : Int)) (.bool true)).run Tryz.prog w = .ok () { w with heap := w.heap.setIfInBounds r (.map ((l ++ [(p, c)]).map bEnt).toArray (c + 1)) } := by
    simp only [Instr.mapUpdate, Sem.run_bind, run_underlying hm, Result.andThen_ok, hg, ckInt, hkk]
    simp [setObj, Sem.run, hb, bEnt]
  have hx : Ext (· = r) w { w with heap := w.heap.setIfInBounds r (.map ((l ++ [(p, c)]).map bEnt).toArray (c + 1)) } := ⟨rfl, rfl, rfl, by simp, fun j hj hs => by
    have : r ≠ j := fun e => hs e.symm
    simp [this]⟩
  refine ⟨_, hrun, hk _ (h.upd i hi hx (fun d hd => by simp [mapB, hd]) (mapB_local _ _) ⟨l ++ [(p, c)], c + 1, by simp, ?_⟩ fun d hd => .inl hd)⟩
  have := (Array.getElem?_eq_some_iff.1 hb).1
  show (w.heap.setIfInBounds r _)[r]? = _
  simp [this]

/-! ### Steps whose reach is known -/
/-! ### A teller -/
def encTel (bT : Nat) (X : TelS) : List Value := .pointer (some ⟨bT, 0, none⟩) :: (X.told.flatMap encI ++ [.int .i64 (X.cursor : Int)])
theorem tel_len {bT : Nat} {X : TelS} (h : X.told.length = 32) : (encTel bT X).length = 34 := by
  simp only [encTel, List.length_cons, List.length_append, flat_len codInt, h, List.length_nil]
theorem tel_told {bT : Nat} {X : TelS} {k : Nat} {v : Int} (h : X.told[k]? = some v) : (encTel bT X)[1 + k]? = some (.int .i64 v) := by
  have := flat_get codInt (j := 0) h rfl
  have lt := (List.getElem?_eq_some_iff.1 h).1
  rw [Nat.add_comm 1]
  unfold encTel
  rw [List.getElem?_cons_succ, List.getElem?_append_left (by rw [flat_len codInt]; omega)]
  simpa using this
theorem tel_cur {bT : Nat} {X : TelS} (h : X.told.length = 32) : (encTel bT X)[33]? = some (.int .i64 (X.cursor : Int)) := by
  unfold encTel
  rw [List.getElem?_cons_succ, List.getElem?_append_right (by rw [flat_len codInt]; omega), flat_len codInt, h]
  rfl
theorem tel_set {bT : Nat} {X : TelS} {k o : Nat} {v u : Int} (h : X.told[k]? = some u) (ho : o = 1 + k) : over (encTel bT X) o [.int .i64 v] = encTel bT ⟨X.told.set k v, X.cursor⟩ := by
  subst ho
  have lt := (List.getElem?_eq_some_iff.1 h).1
  rw [Nat.add_comm 1]
  unfold encTel
  rw [over_cons]
  have := over_mid [] (X.told.flatMap encI) [.int .i64 (X.cursor : Int)] [.int .i64 v] k (by rw [flat_len codInt]; simp; omega)
  simp only [List.nil_append, List.length_nil, Nat.zero_add] at this
  have h2 := flat_over codInt (j := 0) (y := v) (vs := [.int .i64 v]) h (by simp) rfl
  rw [Nat.mul_one, Nat.add_zero] at h2
  rw [this, h2]
theorem tel_move {bT : Nat} {X : TelS} {c : Nat} {i : Int} (h : X.told.length = 32) (hi : i = (c : Int)) : over (encTel bT X) 33 [.int .i64 i] = encTel bT ⟨X.told, c⟩ := by
  subst hi
  unfold encTel
  rw [over_cons]
  have := over_mid (X.told.flatMap encI) [.int .i64 (X.cursor : Int)] [] [.int .i64 (c : Int)] 0 (by simp)
  simp only [flat_len codInt, h, List.append_nil, Nat.mul_one, Nat.add_zero] at this
  rw [this]
  rfl

def tel0 : TelS := ⟨List.replicate 32 0, 0⟩
theorem tel_build (bT : Nat) (w : World) : (Instr.build 206 #[(0, .pointer (some ⟨bT, 0, none⟩))]).run Tryz.prog w = .ok (.agg (encTel bT tel0).toArray) w := by kernel_rfl
theorem tlNew_ok (bT : Nat) (w : World) : CallC Tryz.prog 91 #[.pointer (some ⟨bT, 0, none⟩)] w fun v w' => ∃ b, v = .pointer (some ⟨b, 0, none⟩) ∧ w.heap.size ≤ b ∧ Ext No w w' ∧ Blk w' b 206 (encTel bT tel0) := by
  have hb2 : ∀ k : Value → Prop, k (.agg (encTel bT tel0).toArray) → PureC Tryz.prog (Instr.build 206 #[(0, .pointer (some ⟨bT, 0, none⟩))]) k := fun k hk => PureC.of (tel_build bT) hk
  have ho : cellsL (.agg (encTel bT tel0).toArray) = encTel bT tel0 := by simp [cellsL]
  generalize Value.agg (encTel bT tel0).toArray = VV at hb2 ho
  refine fn_intro tabOk Tryz.func91 (by kernel_rfl) rfl Tryz.ntmps91 (Nat.le_of_ble_eq_true rfl) ?_
  have hS := St.start w No
  repeat' ((conv => whnf); first | refine RetC.mk ?_ | refine hb2 _ ?_)
  refine hS.new (fun b w' hb hS => ?_)
  rw [ho] at hS
  repeat' ((conv => whnf); first | refine RetC.mk ?_ | refine NzC.mk (by decide) ?_ | refine RngC.mk (by omega) (by omega) ?_ | refine IdxC.mk (by omega) (by omega) ?_ | refine brD (fun _ => ?_) (fun _ => ?_) | refine brND (fun _ => ?_) (fun _ => ?_) | refine brN (fun _ => ?_) (fun _ => ?_) | refine brI (fun _ => ?_) (fun _ => ?_))
  exact ⟨b, rfl, hb, hS.ext, hS.blk 0 rfl⟩

/-- All that a round of a teller holds in hand. -/
def telH (bT bx b1 b3 b4 b5 r : Nat) (X : TelS) (lv ov : Value) (l : List CellS) (p : List Nat) : List Ent :=
  [blk bx 206 (encTel bT X), blk b1 46 [.pointer (some ⟨bx, 0, none⟩)], ownL 59 10 encCell lv l, blk b3 54 [lv], mapB r p, blk b4 224 [.map (some r)], blk b5 54 [ov], ownL 59 10 encCell ov (outC l p)]
theorem outC_len (l : List CellS) (p : List Nat) : (outC l p).length = p.length := by simp [outC]

section
variable {w0 w : World} {S : Nat → Prop} {bT bx b1 b3 b4 b5 r cl : Nat} {al : Option Addr} {ov : Value} {X : TelS} {l : List CellS} {p : List Nat}
theorem Ev.St.ownBNe {w0 w : World} {S : Nat → Prop} {H : List Ent} (h : St w0 S w H) (i j : Nat) {α : Type} {b : Nat} {t e : TypeId} {cs : List Value} {sz : Nat} {enc : α → List Value} {v : Value} {xs : List α} (hi : H[i]? = some (Ev.blk b t cs)) (hj : H[j]? = some (ownL e sz enc v xs)) (hne : i ≠ j) : ¬ v.ownBlock = some b := by
  intro hv
  have := pairwise_at apart_symm h.apart hi hj hne b (by simp [Ev.blk])
  simp [ownL, own, hv] at this
theorem Ev.St.ownOwnNe {w0 w : World} {S : Nat → Prop} {H : List Ent} (h : St w0 S w H) (i j : Nat) {α : Type} {b : Nat} {e : TypeId} {sz n c : Nat} {enc : α → List Value} {v : Value} {xs ys : List α} (hi : H[i]? = some (ownL e sz enc (.slice (some ⟨b, 0, none⟩) n c) ys)) (hj : H[j]? = some (ownL e sz enc v xs)) (hne : i ≠ j) : ¬ v.ownBlock = some b := by
  intro hv
  have := pairwise_at apart_symm h.apart hi hj hne b (by simp [ownL, own, Value.ownBlock])
  simp [ownL, own, hv] at this
theorem take_ok (k : Nat) (hk : k < 32) (hl : l.length = 32) (ht : X.told.length = 32) (hn : k ∉ p) (h8 : p.length < 8) (hS : St w0 S w (telH bT bx b1 b3 b4 b5 r X (.slice al 32 cl) ov l p)) :
    CallC Tryz.prog 150 #[.int .i64 (k : Int), .pointer (some ⟨b4, 0, none⟩), .pointer (some ⟨b3, 0, none⟩), .pointer (some ⟨b1, 0, none⟩), .pointer (some ⟨b5, 0, none⟩)] w fun _ w' => ∃ a' c', St w0 S w' (telH bT bx b1 b3 b4 b5 r ⟨X.told.set k (verAt l k), X.cursor⟩ (.slice al 32 cl) (.slice a' (p.length + 1) c') l (p ++ [k])) := by
  obtain ⟨x, hx⟩ : ∃ x, l[k]? = some x := ⟨_, List.getElem?_eq_getElem (by omega)⟩
  obtain ⟨u, hu⟩ : ∃ u, X.told[k]? = some u := ⟨_, List.getElem?_eq_getElem (by omega)⟩
  have hver := verAt_of hx
  have hcell := cellAt_of hx
  rw [hver]
  unfold telH at hS ⊢
  refine fn_intro tabOk Tryz.func150 (by kernel_rfl) rfl Tryz.ntmps150 (Nat.le_of_ble_eq_true rfl) ?_
  (conv => whnf)
  refine hS.ld 5 rfl rfl ?_
  (conv => whnf)
  refine hS.insB 4 rfl hn (fun w' hS => ?_)
  replace hS : St w0 S w' [blk bx 206 (encTel bT X), blk b1 46 [.pointer (some ⟨bx, 0, none⟩)], ownL 59 10 encCell (.slice al 32 cl) l, blk b3 54 [.slice al 32 cl], mapB r (p ++ [k]), blk b4 224 [.map (some r)], blk b5 54 [ov], ownL 59 10 encCell ov (outC l p)] := hS
  have h10 : ¬ b1 = bx := Blk.ne (hS.blk 1 rfl) (hS.blk 0 rfl) (by decide)
  have h30 : ¬ b3 = bx := Blk.ne (hS.blk 3 rfl) (hS.blk 0 rfl) (by decide)
  have h35 : ¬ b3 = b5 := fun e => pairwise_at apart_symm hS.apart (i := 3) (j := 6) rfl rfl (by decide) b3 (by simp [blk]) (by simp [blk, e])
  have h3o : ¬ ov.ownBlock = some b3 := hS.ownBNe 3 7 rfl rfl (by decide)
  (conv => whnf)
  (refine drawS tabOk mixed [] ((· = bx)) [0, 1, 2, 3, 4, 5, 6, 7, 8, 9, 10] (by kernel_rfl) ?_; rintro w1 rfl; replace hS := hS.drew)
  obtain ⟨bl, ol, x', hx', _, hal, _, hc⟩ := (ownL_slc (G := fun _ => True) codCell (hS.get 2 rfl) fun _ _ => trivial).at hk
  obtain rfl := Option.some.inj (hx'.symm.trans hx)
  subst hal
  have hbl : ¬ bl = bx := hS.ownNe 0 2 rfl rfl (by decide) bl ol rfl
  have hb5 : ¬ bl = b5 := hS.ownNe 6 2 rfl rfl (by decide) bl ol rfl
  have hbo : ¬ ov.ownBlock = some bl := by
    intro hv
    have := pairwise_at apart_symm hS.apart (i := 2) (j := 7) rfl rfl (by decide) bl (by simp [ownL, own, Value.ownBlock])
    simp [ownL, own, hv] at this
  repeat' ((conv => whnf); first | refine IdxC.mk (by omega) (by omega) ?_ | refine hS.ldF 1 rfl rfl h10 ?_ | refine hS.ldF 3 rfl rfl h30 ?_ | refine ldFc (hc.one 1 rfl) hbl ?_)
  refine hS.stX 0 rfl (by rw [tel_len ht]; simp [cellsL]; omega) rfl (fun w2 hx2 hS => ?_)
  refine KeepC.mk hx2 ?_
  have hc := hx2.cells hc hbl
  have ho : over (encTel bT X) (0 + 1 + Int.toNat (k : Int) * 1) (cellsL (.int .i64 x'.ver)) = encTel bT ⟨X.told.set k x'.ver, X.cursor⟩ := tel_set hu (by simp)
  replace hS : St w0 S w2 [blk bx 206 (encTel bT ⟨X.told.set k x'.ver, X.cursor⟩), blk b1 46 [.pointer (some ⟨bx, 0, none⟩)], ownL 59 10 encCell (.slice (some ⟨bl, ol, none⟩) 32 cl) l, blk b3 54 [.slice (some ⟨bl, ol, none⟩) 32 cl], mapB r (p ++ [k]), blk b4 224 [.map (some r)], blk b5 54 [ov], ownL 59 10 encCell ov (outC l p)] := by rw [← ho]; exact hS
  clear hx2 ho
  (conv => whnf)
  refine drawT tabOk mixed [0] (fun q => q = b5 ∨ ov.ownBlock = some q) (.take 1 (.take 2 (.take 3 (.take 4 (.alt 0 (.alt 5 (.alt 6 (.alt 7 .fin .fin) .fin) .fin) (.alt 5 (.alt 0 (.alt 6 (.alt 7 .fin .fin) .fin) .fin) .fin)))))) (by kernel_rfl) ?_
  rintro w1 rfl
  replace hS := hS.drew
  replace hc := (Ext.drawn No w2 (w2.drawn + 1)).cells hc id
  have no1 : ¬ (b3 = b5 ∨ ov.ownBlock = some b3) := fun e => e.elim h35 h3o
  have no2 : ¬ (bl = b5 ∨ ov.ownBlock = some bl) := fun e => e.elim hb5 hbo
  repeat' ((conv => whnf); first | refine IdxC.mk (by omega) (by omega) ?_ | refine hS.ldF 3 rfl rfl no1 ?_ | refine laFc (l := encCell x') rfl hc no2 ?_ | refine And.intro ?_ ?_)
  all_goals
    repeat' ((conv => whnf); first | refine hS.ld 6 rfl rfl ?_ | refine KeepC.mk (Ext.refl _ _) ?_ | refine KeepC.mk hx3.of_no ?_ | refine And.intro ?_ ?_ | exact trivial | refine hS.litX Tryz.underlying54 (sz := 10) (by kernel_rfl) (z := .agg (encCell ⟨0, 0, noFlow⟩).toArray) (by kernel_rfl) rfl rfl (cs := encCell x') (by rfl) (fun b9 w3 hb9 hx3 hS => ?_))
    refine hS.appX codCell 7 (ys := [x']) (G := fun _ => True) Tryz.underlying54 (bytes := 80) (by kernel_rfl) (z := .agg (encCell ⟨0, 0, noFlow⟩).toArray) (by kernel_rfl) rfl rfl (Slc.of_blk codCell (hS.blk 8 rfl) rfl (by simp) (fun _ _ => trivial) rfl) (by unfold maxLen; rw [outC_len]; omega) (by rw [outC_len]; omega) (fun a2 c2 w4 hx4 hS => ?_)
    refine KeepC.mk (hx3.of_no.trans (hx4.mono fun q hq => .inr hq)) ?_
    repeat' ((conv => whnf); first | refine And.intro ?_ ?_ | exact trivial)
    refine hS.stX 6 rfl (by simp [cellsL]) rfl (fun w5 hx5 hS => ?_)
    refine KeepC.mk ((hx3.of_no.trans (hx4.mono fun q hq => .inr hq)).trans (hx5.mono fun q hq => .inl hq)) ?_
    repeat' ((conv => whnf); first | refine RetC.mk ?_ | refine And.intro ?_ ?_ | exact trivial)
    have hoc : outC l p ++ [x'] = outC l (p ++ [k]) := by simp [outC, hcell]
    have hcl : (outC l p).length + 1 = p.length + 1 := by rw [outC_len]
    replace hS := hS.keep 8
    refine ⟨a2, c2, ?_⟩
    rw [hcl, hoc] at hS
    exact hS
end
end Go.Proofs.YtoaghhcjlfiflaaGreatDoor

/-
  Package teller, walked: Next, Lag.
-/
namespace Go.Proofs.YtoaghhcjlfiflaaGreatDoor
open Go Ev

section
variable {w : World} {bT bx : Nat} {X : TelS} {T : MirS}
theorem tlNext_ok (hX : Blk w bx 206 (encTel bT X)) (hT : Blk w bT 162 (encM T)) (hl : T.cells.length = 32) (ht : X.told.length = 32) (hc : X.cursor < 32) :
    CallC Tryz.prog 102 #[.pointer (some ⟨bx, 0, none⟩)] w fun v w' => (∃ a' c', v = .slice a' (X.picks T.cells).length c') ∧ Ext (· = bx) w w' ∧ Blk w' bx 206 (encTel bT (X.next T.cells)) ∧ (ownL 59 10 encCell v (outC T.cells (X.picks T.cells))).holds w' ∧ Fresh w w' v := by
  have hbT : ¬ bT = bx := Blk.ne hT hX (by decide)
  have hlx := hX.lt
  generalize hL : T.cells = l at hl ⊢
  refine fn_intro tabOk Tryz.func102 (by kernel_rfl) rfl Tryz.ntmps102 (Nat.le_of_ble_eq_true rfl) ?_
  have hS := (St.start w (· = bx)).add (blk_local bx _ _) hX (by simp [blk]; exact hlx) (by simp)
  (conv => whnf)
  refine hS.new (fun b1 w' _ hS => ?_)
  (conv => whnf)
  refine hS.ld 1 rfl rfl ?_
  (conv => whnf)
  refine hS.ld 0 rfl rfl ?_
  (conv => whnf)
  refine (tcells_ok (hS.ext.blk hT hbT) (by rw [hL]; exact hl)).mono ?_
  rintro v w' ⟨al, cl, rfl, hx', ho, hf⟩
  rw [hL] at ho
  replace hS := hS.madeL hx' ho hf
  clear hx' ho hf
  (conv => whnf)
  refine hS.new (fun b3 w' _ hS => ?_)
  (conv => whnf)
  refine hS.st 3 rfl (Nat.le_of_ble_eq_true rfl) rfl (fun w' hS => ?_)
  (conv => whnf)
  refine hS.mkMapB (fun r w' _ hS => ?_)
  (conv => whnf)
  refine hS.new (fun b4 w' _ hS => ?_)
  (conv => whnf)
  refine hS.st 5 rfl (Nat.le_of_ble_eq_true rfl) rfl (fun w' hS => ?_)
  (conv => whnf)
  refine hS.new (fun b5 w' _ hS => ?_)
  have hS := hS.add (ownL_local (e := 59) (enc := encCell) (sz := 10) (v := .slice none 0 0) (xs := [])) (own_nil _ _ _) (by simp [ownL, own, Value.ownBlock]) (by simp [ownL, own, Value.ownBlock])
  replace hS : St w (· = bx) w' (telH bT bx b1 b3 b4 b5 r ⟨tellAll l X.told (pick1 l X.told 0), X.cursor⟩ (.slice al 32 cl) (.slice none 0 0) l (pick1 l X.told 0)) := hS
  (conv => whnf)
  refine hS.ld 3 rfl rfl ?_
  (conv => whnf)
  refine loopR tabOk (fun σ w' q => ∃ (k : Nat) (ov : Value), σ = [(19, .int .i64 k), (18, .int .i64 (32 : Nat)), (17, .slice al 32 cl), (6, .func (.func 150) #[] #[.pointer (some ⟨b4, 0, none⟩), .pointer (some ⟨b3, 0, none⟩), .pointer (some ⟨b1, 0, none⟩), .pointer (some ⟨b5, 0, none⟩)]), (5, .pointer (some ⟨b5, 0, none⟩)), (4, .pointer (some ⟨b4, 0, none⟩)), (3, .pointer (some ⟨b3, 0, none⟩)), (1, .pointer (some ⟨b1, 0, none⟩))] ∧ q = 32 - k ∧ k ≤ 32 ∧ (∃ a' c', ov = .slice a' (pick1 l X.told k).length c') ∧ St w (· = bx) w' (telH bT bx b1 b3 b4 b5 r ⟨tellAll l X.told (pick1 l X.told k), X.cursor⟩ (.slice al 32 cl) ov l (pick1 l X.told k)))
    (σ' := [(19, .int .i64 ((0 : Nat) : Int)), (18, .int .i64 (32 : Nat)), (17, .slice al 32 cl), (6, .func (.func 150) #[] #[.pointer (some ⟨b4, 0, none⟩), .pointer (some ⟨b3, 0, none⟩), .pointer (some ⟨b1, 0, none⟩), .pointer (some ⟨b5, 0, none⟩)]), (5, .pointer (some ⟨b5, 0, none⟩)), (4, .pointer (some ⟨b4, 0, none⟩)), (3, .pointer (some ⟨b3, 0, none⟩)), (1, .pointer (some ⟨b1, 0, none⟩))]) (n := 32) ⟨rfl, rfl, rfl, rfl, rfl, rfl, rfl, rfl, trivial⟩ ⟨0, _, rfl, rfl, Nat.zero_le _, ⟨none, 0, rfl⟩, hS⟩ ?_
  clear hS
  rintro _ w1 q ⟨k, _, rfl, rfl, hk, ⟨a', c', rfl⟩, hS⟩
  have hplt : ∀ x ∈ pick1 l X.told k, x < k := fun x hx => pick1_lt hx
  have hp8 := pick1_len l X.told k
  have hps := pick1_succ l X.told k
  have htl := (tellAll_len l (pick1 l X.told k) X.told).trans ht
  (conv => whnf)
  refine brD (fun h3 => ?_) (fun h3 => ?_)
  · have hk : k < 32 := by omega
    have hkn : k ∉ pick1 l X.told k := fun h => Nat.lt_irrefl _ (hplt k h)
    have htk := tellAll_at l (pick1 l X.told k) X.told k (by omega)
    rw [if_neg hkn] at htk
    obtain ⟨x, hx⟩ : ∃ x, l[k]? = some x := ⟨_, List.getElem?_eq_getElem (by omega)⟩
    have hver := verAt_of hx
    generalize pick1 l X.told k = p at hS hplt hp8 hps htl hkn htk
    unfold telH at hS
    obtain ⟨bl, ol, x', hx', _, rfl, _, hcx⟩ := (ownL_slc (G := fun _ => True) codCell (hS.get 2 rfl) fun _ _ => trivial).at hk
    obtain rfl := Option.some.inj (hx'.symm.trans hx)
    (conv => whnf)
    refine IdxC.mk (by omega) (by omega) ?_
    (conv => whnf)
    refine lac (l := encCell x') rfl hcx ?_
    (conv => whnf)
    refine hS.new (fun b8 w' _ hS => ?_)
    (conv => whnf)
    refine hS.st 8 rfl (Nat.le_of_ble_eq_true rfl) rfl (fun w' hS => ?_)
    (conv => whnf)
    (refine drawS tabOk mixed [] No [0, 1, 2, 3, 4, 5, 6, 7, 8, 9, 10, 11, 12, 13] (by kernel_rfl) ?_; rintro w1 rfl; replace hS := hS.drew)
    have hd := tel_told (bT := bT) (X := ⟨tellAll l X.told p, X.cursor⟩) htk
    repeat' ((conv => whnf); first | refine RetC.mk ?_ | refine NzC.mk (by decide) ?_ | refine RngC.mk (by omega) (by omega) ?_ | refine IdxC.mk (by omega) (by omega) ?_ | refine hS.ldF 8 rfl rfl id ?_ | refine hS.ldF 1 rfl rfl id ?_ | refine IdxC.mk (by omega) (by omega) ?_ | refine hS.ldF 0 rfl (o := 0 + 1 + Int.toNat (k : Int) * 1) (by rw [← hd]; congr 1; simp) id ?_ | refine hS.ldF 6 rfl rfl id ?_ | refine brD (fun _ => ?_) (fun _ => ?_) | refine brND (fun _ => ?_) (fun _ => ?_) | refine brN (fun _ => ?_) (fun _ => ?_) | refine brI (fun _ => ?_) (fun _ => ?_))
    · rename_i h1 h2
      have hlag : lagB l X.told k = true := decide_eq_true (by rw [hver]; exact h1)
      rw [if_pos ⟨hlag, by omega⟩] at hps
      (conv => whnf)
      refine (take_ok k hk hl htl hkn (by omega) (hS.keep 8)).mono ?_
      clear hS
      rintro v w' ⟨a2, c2, hS⟩
      have htt : (tellAll l X.told p).set k (verAt l k) = tellAll l X.told (p ++ [k]) := (tellAll_app l X.told p k).symm
      dsimp only at hS
      rw [htt, ← hps] at hS
      have hpl : p.length + 1 = (pick1 l X.told (k + 1)).length := by rw [hps]; simp
      rw [hpl] at hS
      (conv => whnf)
      refine RngC.mk (by omega) (by omega) ?_
      (conv => whnf)
      refine LoopE.mk ⟨_, [(19, .int .i64 ((k + 1 : Nat) : Int)), (18, _), (17, _), (6, _), (5, _), (4, _), (3, _), (1, _)], ?_, ⟨rfl, rfl, rfl, rfl, rfl, rfl, rfl, rfl, trivial⟩, ⟨k + 1, _, rfl, rfl, by omega, ⟨a2, c2, rfl⟩, hS⟩⟩
      omega
    · rename_i h1 h2
      rw [if_neg (fun h => h2 (by omega))] at hps
      rw [← hps] at hS
      refine LoopE.mk ⟨_, [(19, .int .i64 ((k + 1 : Nat) : Int)), (18, _), (17, _), (6, _), (5, _), (4, _), (3, _), (1, _)], ?_, ⟨rfl, rfl, rfl, rfl, rfl, rfl, rfl, rfl, trivial⟩, ⟨k + 1, _, rfl, rfl, by omega, ⟨a', c', by rw [hps]⟩, hS.keep 8⟩⟩
      omega
    · rename_i h1
      rw [if_neg (fun h => absurd (hver.trans h1) (of_decide_eq_true h.1))] at hps
      rw [← hps] at hS
      refine LoopE.mk ⟨_, [(19, .int .i64 ((k + 1 : Nat) : Int)), (18, _), (17, _), (6, _), (5, _), (4, _), (3, _), (1, _)], ?_, ⟨rfl, rfl, rfl, rfl, rfl, rfl, rfl, rfl, trivial⟩, ⟨k + 1, _, rfl, rfl, by omega, ⟨a', c', by rw [hps]⟩, hS.keep 8⟩⟩
      omega
  · obtain rfl : k = 32 := by omega
    have hnd := pick1_nodup l X.told 32
    have hpk : X.picks l = (stage2 32 X.cursor (pick1 l X.told 32)).2 := rfl
    have hnx : X.next l = ⟨tellAll l X.told (X.picks l), (stage2 32 X.cursor (pick1 l X.told 32)).1⟩ := rfl
    have hsw : Swept X.cursor 0 X.cursor (pick1 l X.told 32) := ⟨by omega, fun i hi => absurd hi (Nat.not_lt_zero _)⟩
    clear hps
    generalize hs2 : stage2 32 X.cursor (pick1 l X.told 32) = z2 at hpk hnx
    generalize pick1 l X.told 32 = p at hS hplt hp8 htl hnd hsw hs2
    (conv => whnf)
    refine loopR tabOk (fun σ w' q => ∃ (j c : Nat) (p : List Nat) (ov : Value), σ = [(6, .func (.func 150) #[] #[.pointer (some ⟨b4, 0, none⟩), .pointer (some ⟨b3, 0, none⟩), .pointer (some ⟨b1, 0, none⟩), .pointer (some ⟨b5, 0, none⟩)]), (5, .pointer (some ⟨b5, 0, none⟩)), (4, .pointer (some ⟨b4, 0, none⟩)), (3, .pointer (some ⟨b3, 0, none⟩)), (1, .pointer (some ⟨b1, 0, none⟩))] ∧ q = 32 - j ∧ p.length ≤ 8 ∧ c < 32 ∧ Swept X.cursor j c p ∧ stage2 (32 - j) c p = z2 ∧ (∃ a' c', ov = .slice a' p.length c') ∧ St w (· = bx) w' (telH bT bx b1 b3 b4 b5 r ⟨tellAll l X.told p, c⟩ (.slice al 32 cl) ov l p))
      (σ' := [(6, .func (.func 150) #[] #[.pointer (some ⟨b4, 0, none⟩), .pointer (some ⟨b3, 0, none⟩), .pointer (some ⟨b1, 0, none⟩), .pointer (some ⟨b5, 0, none⟩)]), (5, .pointer (some ⟨b5, 0, none⟩)), (4, .pointer (some ⟨b4, 0, none⟩)), (3, .pointer (some ⟨b3, 0, none⟩)), (1, .pointer (some ⟨b1, 0, none⟩))]) (n := 32) ⟨rfl, rfl, rfl, rfl, rfl, trivial⟩ ⟨0, X.cursor, p, _, rfl, rfl, hp8, hc, hsw, hs2, ⟨a', c', rfl⟩, hS⟩ ?_
    clear hS hp8 hplt htl hnd hsw hs2
    clear p
    rintro _ w1 q ⟨j, c, p, _, rfl, rfl, hp8, hc32, hsw, hs2, ⟨a', c', rfl⟩, hS⟩
    have htl := (tellAll_len l p X.told).trans ht
    unfold telH at hS
    have hcur : (encTel bT ⟨tellAll l X.told p, c⟩)[33]? = some (.int .i64 (c : Int)) := tel_cur htl
    have h10 : ¬ b1 = bx := Blk.ne (hS.blk 1 rfl) (hS.blk 0 rfl) (by decide)
    (conv => whnf)
    refine hS.ld 6 rfl rfl ?_
    (conv => whnf)
    refine brD (fun h3 => ?_) (fun h3 => ?_)
    · have h8 : p.length < 8 := by omega
      have hj := hsw.few hc h8
      have hstep := hsw.step
      rw [show 32 - j = (32 - (j + 1)) + 1 by omega, stage2_step h8] at hs2
      (conv => whnf)
      refine hS.ld 1 rfl rfl ?_
      (conv => whnf)
      refine hS.ld 0 rfl hcur ?_
      (conv => whnf)
      refine hS.ld 5 rfl rfl ?_
      (conv => whnf)
      refine hS.lookB 4 rfl ?_
      by_cases hcp : c ∈ p
      · rw [decide_eq_true hcp]
        rw [if_pos hcp] at hs2 hstep
        (conv => whnf)
        have hcur2 : (encTel bT ⟨tellAll l X.told p, c⟩)[33]? = some (.int .i64 (c : Int)) := tel_cur htl
        (refine drawS tabOk mixed [4] (· = bx) [0, 1, 2, 3, 4, 5, 6, 7, 8, 9] (by kernel_rfl) ?_; rintro w1 rfl; replace hS := hS.drew)
        repeat' ((conv => whnf); first | refine RetC.mk ?_ | refine NzC.mk (by decide) ?_ | refine RngC.mk (by omega) (by omega) ?_ | refine IdxC.mk (by omega) (by omega) ?_ | refine hS.ldF 1 rfl rfl h10 ?_ | refine hS.ld 0 rfl hcur2 ?_ | refine KeepC.mk (Ext.refl _ _) ?_ | refine brD (fun _ => ?_) (fun _ => ?_) | refine brND (fun _ => ?_) (fun _ => ?_) | refine brN (fun _ => ?_) (fun _ => ?_) | refine brI (fun _ => ?_) (fun _ => ?_))
        refine hS.stX 0 rfl (by rw [tel_len htl]; simp [cellsL]) rfl (fun w2 hx2 hS => ?_)
        refine KeepC.mk hx2 ?_
        have hmv : over (encTel bT ⟨tellAll l X.told p, c⟩) (0 + 33) (cellsL (.int .i64 (((c : Int) + 1).tmod 32))) = encTel bT ⟨tellAll l X.told p, (c + 1) % 32⟩ := tel_move htl (by rw [Int.tmod_eq_emod_of_nonneg (by omega)]; omega)
        replace hS : St w (· = bx) w2 (telH bT bx b1 b3 b4 b5 r ⟨tellAll l X.told p, (c + 1) % 32⟩ (.slice al 32 cl) (.slice a' p.length c') l p) := by
          unfold telH
          rw [← hmv]
          exact hS
        (conv => whnf)
        refine LoopE.mk ⟨_, [(6, _), (5, _), (4, _), (3, _), (1, _)], ?_, ⟨rfl, rfl, rfl, rfl, rfl, trivial⟩, ⟨j + 1, (c + 1) % 32, p, _, rfl, rfl, hp8, Nat.mod_lt _ (by omega), hstep, hs2, ⟨a', c', rfl⟩, hS⟩⟩
        omega
      · rw [decide_eq_false hcp]
        rw [if_neg hcp] at hs2 hstep
        (conv => whnf)
        refine (take_ok c hc32 hl htl hcp h8 hS).mono ?_
        clear hS
        rintro v w' ⟨a2, c2, hS⟩
        have htt : (tellAll l X.told p).set c (verAt l c) = tellAll l X.told (p ++ [c]) := (tellAll_app l X.told p c).symm
        dsimp only at hS
        have hpl : p.length + 1 = (p ++ [c]).length := by simp
        rw [htt, hpl] at hS
        have htl2 := (tellAll_len l (p ++ [c]) X.told).trans ht
        have hp9 : (p ++ [c]).length ≤ 8 := by simp; omega
        unfold telH at hS
        (conv => whnf)
        have hcur2 : (encTel bT ⟨tellAll l X.told (p ++ [c]), c⟩)[33]? = some (.int .i64 (c : Int)) := tel_cur htl2
        (refine drawS tabOk mixed [4] (· = bx) [0, 1, 2, 3, 4, 5, 6, 7, 8, 9] (by kernel_rfl) ?_; rintro w1 rfl; replace hS := hS.drew)
        repeat' ((conv => whnf); first | refine RetC.mk ?_ | refine NzC.mk (by decide) ?_ | refine RngC.mk (by omega) (by omega) ?_ | refine IdxC.mk (by omega) (by omega) ?_ | refine hS.ldF 1 rfl rfl h10 ?_ | refine hS.ld 0 rfl hcur2 ?_ | refine KeepC.mk (Ext.refl _ _) ?_ | refine brD (fun _ => ?_) (fun _ => ?_) | refine brND (fun _ => ?_) (fun _ => ?_) | refine brN (fun _ => ?_) (fun _ => ?_) | refine brI (fun _ => ?_) (fun _ => ?_))
        refine hS.stX 0 rfl (by rw [tel_len htl2]; simp [cellsL]) rfl (fun w2 hx2 hS => ?_)
        refine KeepC.mk hx2 ?_
        have hmv : over (encTel bT ⟨tellAll l X.told (p ++ [c]), c⟩) (0 + 33) (cellsL (.int .i64 (((c : Int) + 1).tmod 32))) = encTel bT ⟨tellAll l X.told (p ++ [c]), (c + 1) % 32⟩ := tel_move htl2 (by rw [Int.tmod_eq_emod_of_nonneg (by omega)]; omega)
        replace hS : St w (· = bx) w2 (telH bT bx b1 b3 b4 b5 r ⟨tellAll l X.told (p ++ [c]), (c + 1) % 32⟩ (.slice al 32 cl) (.slice a2 (p ++ [c]).length c2) l (p ++ [c])) := by
          unfold telH
          rw [← hmv]
          exact hS
        (conv => whnf)
        refine LoopE.mk ⟨_, [(6, _), (5, _), (4, _), (3, _), (1, _)], ?_, ⟨rfl, rfl, rfl, rfl, rfl, trivial⟩, ⟨j + 1, (c + 1) % 32, (p ++ [c]), _, rfl, rfl, hp9, Nat.mod_lt _ (by omega), hstep, hs2, ⟨a2, c2, rfl⟩, hS⟩⟩
        omega
    · have h8 : ¬ p.length < 8 := by omega
      rw [stage2_done h8] at hs2
      subst hs2
      rw [show X.picks l = p from hpk] at hnx ⊢
      rw [hnx]
      (conv => whnf)
      refine hS.ld 6 rfl rfl ?_
      repeat' ((conv => whnf); first | refine RetC.mk ?_ | refine NzC.mk (by decide) ?_ | refine RngC.mk (by omega) (by omega) ?_ | refine IdxC.mk (by omega) (by omega) ?_ | refine brD (fun _ => ?_) (fun _ => ?_) | refine brND (fun _ => ?_) (fun _ => ?_) | refine brN (fun _ => ?_) (fun _ => ?_) | refine brI (fun _ => ?_) (fun _ => ?_))
      refine ⟨⟨a', c', rfl⟩, hS.ext, hS.blk 0 rfl, hS.get 7 rfl, fun g hg => ?_⟩
      obtain ⟨h1, h2⟩ := hS.may _ (List.mem_of_getElem? (i := 7) rfl) g (by simpa [ownL, own] using hg)
      refine ⟨h1.resolve_left ?_, h2⟩
      rintro rfl
      exact hS.ownBNe 0 7 rfl rfl (by decide) hg
def lagK (l : List CellS) (t : List Int) (k : Nat) : Nat := ((List.range k).filter (lagB l t)).length
theorem lagK_le (l : List CellS) (t : List Int) (k : Nat) : lagK l t k ≤ k := by
  unfold lagK
  refine Nat.le_trans (List.length_filter_le _ _) ?_
  simp
theorem lagK_succ (l : List CellS) (t : List Int) (k : Nat) : lagK l t (k + 1) = lagK l t k + (if lagB l t k = true then 1 else 0) := by
  unfold lagK
  rw [List.range_succ, List.filter_append, List.length_append]
  cases h : lagB l t k <;> simp [h]
end
end Go.Proofs.YtoaghhcjlfiflaaGreatDoor

/-
  The reference's teller, walked: NewTeller, Lag.
-/
namespace Go.Proofs.YtoaghhcjlfiflaaGreatDoor
open Go Ev

/-- The reference's teller: its variable, and the row of what was told. -/
def refL (bt bl gl cl : Nat) (X : TelS) : Ent := ⟨[bl, gl], fun w => bl ≠ gl ∧ Blk w bl 244 [.pointer (some ⟨bt, 0, none⟩), .slice (some ⟨gl, 0, none⟩) 32 cl, .int .i64 (X.cursor : Int)] ∧ (ownL 3 1 encI (.slice (some ⟨gl, 0, none⟩) 32 cl) X.told).holds w⟩
theorem refL_local {bt bl gl cl : Nat} {X : TelS} : (refL bt bl gl cl X).Local := fun w w' h ⟨h1, h2, h3⟩ =>
  ⟨h1, blk_local bl _ _ w w' (fun b hb => h b (by simp [blk] at hb; simp [refL, hb])) h2, ownL_local w w' (fun b hb => h b (by simp [ownL, own, Value.ownBlock] at hb; simp [refL, hb])) h3⟩

section
variable {w : World} {bt g c bl gl cl : Nat} {T : MirS} {X : TelS}
theorem refL_told (h : (refL bt bl gl cl X).holds w) {k : Nat} {u : Int} (hu : X.told[k]? = some u) : w.cell? ⟨gl, 0 + k * 1, none⟩ = some (.int .i64 u) := by
  obtain ⟨_, _, h3⟩ := h
  have hl : X.told.length = 32 := by
    obtain ⟨_, ⟨h4, _⟩ | ⟨g', cap, cur, h4, _⟩⟩ := h3
    · cases h4
    · simp only [Value.slice.injEq] at h4
      exact h4.2.1.symm
  obtain ⟨b, o, h5, _, h6⟩ := (ownL_slc (G := fun _ => True) codInt h3 fun _ _ => trivial).cells k u hu
  cases h5
  exact h6.one 0 rfl

theorem rlNew_ok (w : World) : CallC Tryz.prog 112 #[.pointer (some ⟨bt, 0, none⟩)] w fun v w' => ∃ bl gl cl, v = .pointer (some ⟨bl, 0, none⟩) ∧ Ext No w w' ∧ (refL bt bl gl cl tel0).holds w' ∧ (∀ b ∈ (refL bt bl gl cl tel0).foot, w.heap.size ≤ b ∧ b < w'.heap.size) := by
  refine fn_intro tabOk Tryz.func112 (by kernel_rfl) rfl Tryz.ntmps112 (Nat.le_of_ble_eq_true rfl) ?_
  have hS := St.start w No
  (conv => whnf)
  refine hS.mkSlice (n := 32) Tryz.underlying62 (sz := 1) (bytes := 8) (by kernel_rfl) (z := .int .i64 0) (by kernel_rfl) (by decide) (by decide) (by decide) (enc := encI) (xs := List.replicate 32 (0 : Int)) (by simp) (by kernel_rfl) (fun gl w' hgl hS => ?_)
  (conv => whnf)
  refine hS.new (fun bl w' hbl hS => ?_)
  repeat' ((conv => whnf); first | refine RetC.mk ?_ | refine NzC.mk (by decide) ?_ | refine RngC.mk (by omega) (by omega) ?_ | refine IdxC.mk (by omega) (by omega) ?_ | refine brD (fun _ => ?_) (fun _ => ?_) | refine brND (fun _ => ?_) (fun _ => ?_) | refine brN (fun _ => ?_) (fun _ => ?_) | refine brI (fun _ => ?_) (fun _ => ?_))
  refine ⟨bl, gl, 32, rfl, hS.ext, ⟨?_, hS.get 1 rfl, hS.get 0 rfl⟩, ?_⟩
  · have := pairwise_at apart_symm hS.apart (i := 1) (j := 0) rfl rfl (by decide) bl (by simp [blk])
    simpa [ownL, own, Value.ownBlock] using this
  · intro b hb
    simp only [refL, List.mem_cons, List.not_mem_nil, or_false] at hb
    rcases hb with rfl | rfl
    · have := hS.may _ (List.mem_of_getElem? (i := 1) rfl) b (by simp [blk])
      exact ⟨this.1.resolve_left id, this.2⟩
    · have := hS.may _ (List.mem_of_getElem? (i := 0) rfl) b (by simp [ownL, own, Value.ownBlock])
      exact ⟨this.1.resolve_left id, this.2⟩

end
end Go.Proofs.YtoaghhcjlfiflaaGreatDoor

/-
  Who is told in a round: eight, each once; how many wait behind it; whom the rounds reach.
-/
namespace Go.Proofs.YtoaghhcjlfiflaaGreatDoor
open Go Ev

structure S2 (c0 : Nat) (p z : List Nat) (c : Nat) : Prop where
  len : z.length = 8
  nd : z.Nodup
  lt : ∀ x ∈ z, x < 32
  sub : ∀ x ∈ p, x ∈ z
  cur : c < 32
theorem stage2_law {c0 : Nat} (hc0 : c0 < 32) : ∀ (n j c : Nat) (p : List Nat), n + j = 32 → Swept c0 j c p → c < 32 → p.length ≤ 8 → p.Nodup → (∀ x ∈ p, x < 32) → S2 c0 p (stage2 n c p).2 (stage2 n c p).1
  | n, j, c, p, hn, hs, hc, hp, hd, hl => by
    by_cases h8 : p.length < 8
    · have hj := hs.few hc0 h8
      obtain ⟨m, rfl⟩ : ∃ m, n = m + 1 := ⟨n - 1, by omega⟩
      rw [stage2_step h8]
      have ih := stage2_law hc0 m (j + 1) ((c + 1) % 32) (if c ∈ p then p else p ++ [c]) (by omega) hs.step (Nat.mod_lt _ (by omega)) (by
          split
          · exact hp
          · simp
            omega)
        (by
          split
          · exact hd
          · rename_i h
            rw [List.nodup_append]
            exact ⟨hd, by simp, fun a ha b hb => by simp at hb; subst hb; rintro rfl; exact h ha⟩)
        (by
          split
          · exact hl
          · intro x hx
            rcases List.mem_append.1 hx with h | h
            · exact hl x h
            · simp at h; omega)
      refine ⟨ih.len, ih.nd, ih.lt, fun x hx => ih.sub x ?_, ih.cur⟩
      split
      · exact hx
      · exact List.mem_append_left _ hx
    · rw [stage2_done h8]
      exact ⟨by dsimp only; omega, hd, hl, fun _ h => h, hc⟩
theorem picks_law {X : TelS} (l : List CellS) (hc : X.cursor < 32) : S2 X.cursor (pick1 l X.told 32) (X.picks l) (X.next l).cursor :=
  stage2_law hc 32 0 X.cursor _ rfl ⟨by omega, fun i hi => absurd hi (Nat.not_lt_zero _)⟩ hc (pick1_len _ _ _) (pick1_nodup _ _ _) fun _ h => pick1_lt h

theorem lagB_tell (l : List CellS) (t : List Int) (p : List Nat) {k : Nat} (h : k < t.length) : lagB l (tellAll l t p) k = (lagB l t k && decide (k ∉ p)) := by
  unfold lagB
  rw [toldAt_of (tellAll_at l p t k h)]
  by_cases hk : k ∈ p
  · rw [if_pos hk]; simp [hk]
  · rw [if_neg hk]; simp [hk]
theorem filter_drop {xs : List Nat} (hn : xs.Nodup) : ∀ n, (xs.filter fun k => decide (k ∉ xs.take n)) = xs.drop n := by
  induction xs with
  | nil => intro n; simp
  | cons x xs ih =>
    intro n
    obtain ⟨h1, h2⟩ := List.nodup_cons.1 hn
    cases n with
    | zero => simp
    | succ n =>
      rw [List.take_succ_cons, List.drop_succ_cons, ← ih h2 n, List.filter_cons_of_neg (by simp)]
      apply List.filter_congr
      intro y hy
      have : y ≠ x := by rintro rfl; exact h1 hy
      simp [this]
/-- How many wait when a round is over. -/
theorem lag_next {X : TelS} (l : List CellS) (hc : X.cursor < 32) (ht : X.told.length = 32) : lag l (X.next l).told = lag l X.told - 8 := by
  have hp := picks_law l hc
  have e : lag l (X.next l).told = (((List.range 32).filter (lagB l X.told)).filter fun k => decide (k ∉ X.picks l)).length := by
    unfold lag
    rw [List.filter_filter]
    congr 1
    apply List.filter_congr
    intro k hk
    show lagB l (tellAll l X.told (X.picks l)) k = _
    rw [lagB_tell l X.told (X.picks l) (by rw [ht]; exact List.mem_range.1 hk)]
    cases lagB l X.told k <;> simp
  rw [e]
  unfold lag
  by_cases h8 : 8 ≤ ((List.range 32).filter (lagB l X.told)).length
  · have h1 : X.picks l = ((List.range 32).filter (lagB l X.told)).take 8 := by
      unfold TelS.picks
      rw [stage2_done (by unfold pick1; rw [List.length_take]; omega)]
      rfl
    rw [h1, filter_drop ((List.filter_sublist).nodup List.nodup_range), List.length_drop]
  · have h1 : pick1 l X.told 32 = (List.range 32).filter (lagB l X.told) := List.take_of_length_le (by omega)
    have h2 : (((List.range 32).filter (lagB l X.told)).filter fun k => decide (k ∉ X.picks l)) = [] := by
      rw [List.filter_eq_nil_iff]
      intro k hk
      have := hp.sub k (by rw [h1]; exact hk)
      simp [this]
    rw [h2]
    simp
    omega
theorem lag_le (l : List CellS) (t : List Int) : lag l t ≤ 32 := by
  unfold lag
  refine Nat.le_trans (List.length_filter_le _ _) ?_
  simp
theorem lag_zero {l : List CellS} {t : List Int} (h : lag l t = 0) : pick1 l t 32 = [] := by
  unfold pick1
  rw [List.eq_nil_of_length_eq_zero h]
  rfl
theorem told_next {X : TelS} (l : List CellS) (ht : X.told.length = 32) : (X.next l).told.length = 32 := (tellAll_len l _ _).trans ht
/-- A round in which no one waits goes on from the cursor. -/
theorem stage2_calm : ∀ c, c < 32 → stage2 32 c [] = ((c + 8) % 32, (List.range 8).map fun i => (c + i) % 32) := by decide +kernel
theorem calm {X : TelS} {l : List CellS} (hc : X.cursor < 32) (h : lag l X.told = 0) : (X.next l).cursor = (X.cursor + 8) % 32 ∧ X.picks l = (List.range 8).map fun i => (X.cursor + i) % 32 := by
  have := stage2_calm X.cursor hc
  unfold TelS.next TelS.picks
  rw [lag_zero h, this]
  exact ⟨rfl, rfl⟩
end Go.Proofs.YtoaghhcjlfiflaaGreatDoor

/-
  The reference's teller, walked: Next.
-/
namespace Go.Proofs.YtoaghhcjlfiflaaGreatDoor
open Go Ev

abbrev encBo (x : Bool) : List Value := [.bool x]
theorem codBo : Codec 1 encBo := ⟨fun _ => rfl, fun _ => rfl, by decide⟩
def takL (p : List Nat) : List Bool := (List.range 32).map fun k => decide (k ∈ p)
theorem takL_len (p : List Nat) : (takL p).length = 32 := by simp [takL]
theorem takL_at {p : List Nat} {k : Nat} (h : k < 32) : (takL p)[k]? = some (decide (k ∈ p)) := by simp [takL, h]
theorem takL_set {p : List Nat} {k : Nat} (h : k < 32) : (takL p).set k true = takL (p ++ [k]) := by
  apply List.ext_getElem?
  intro i
  rw [List.getElem?_set]
  by_cases e : k = i
  · subst e
    rw [if_pos rfl, if_pos (by rw [takL_len]; exact h), takL_at h]
    simp
  · rw [if_neg e]
    by_cases hi : i < 32
    · rw [takL_at hi, takL_at hi]
      have : ¬ i = k := fun x => e x.symm
      simp [this]
    · rw [List.getElem?_eq_none (by rw [takL_len]; omega), List.getElem?_eq_none (by rw [takL_len]; omega)]
theorem pick1_full {l : List CellS} {t : List Int} {k : Nat} (h : (pick1 l t k).length = 8) : ∀ d, pick1 l t (k + d) = pick1 l t k
  | 0 => rfl
  | d + 1 => by
    have ih := pick1_full h d
    rw [← Nat.add_assoc, pick1_succ, ih, if_neg (by omega)]

theorem out_at {n : Nat} {T : MirS} (hO : TOk n T) {p : List Nat} (hp : ∀ x ∈ p, x < 32) {i : Nat} (hi : i < p.length) : ∃ k, p[i]? = some k ∧ ∀ c, (outC T.cells p)[i]? = some c → c.slot = k ∧ verAt T.cells k = c.ver := by
  obtain ⟨k, hk⟩ : ∃ k, p[i]? = some k := ⟨_, List.getElem?_eq_getElem hi⟩
  refine ⟨k, hk, fun c h => ?_⟩
  have hlt := hp k (List.mem_of_getElem? hk)
  unfold outC at h
  rw [List.getElem?_map, hk] at h
  obtain rfl := Option.some.inj h
  obtain ⟨d, hd⟩ : ∃ d, T.cells[k]? = some d := ⟨_, List.getElem?_eq_getElem (by rw [hO.len]; exact hlt)⟩
  rw [cellAt_of hd, verAt_of hd]
  exact ⟨hO.slot k d hd, rfl⟩
section
variable {w : World} {bt g c bl gl cl : Nat} {T : MirS} {X : TelS}
/-- What a round has in hand. -/
def refH (bt bl gl cl bk ck : Nat) (X : TelS) (ov : Value) (l : List CellS) (p : List Nat) : List Ent :=
  [blk bl 244 [.pointer (some ⟨bt, 0, none⟩), .slice (some ⟨gl, 0, none⟩) 32 cl, .int .i64 (X.cursor : Int)], ownL 3 1 encI (.slice (some ⟨gl, 0, none⟩) 32 cl) X.told, ownL 59 10 encCell ov (outC l p), ownL 4 1 encBo (.slice (some ⟨bk, 0, none⟩) 32 ck) (takL p)]
theorem rlNext_ok (hT : (refT bt g c T).holds w) (hL : (refL bt bl gl cl X).holds w) (hap : ∀ b ∈ [bt, g], ¬ (b = bl ∨ b = gl)) {n : Nat} (hO : TOk n T) (ht : X.told.length = 32) (hc : X.cursor < 32) :
    CallC Tryz.prog 170 #[.pointer (some ⟨bl, 0, none⟩)] w fun v w' => (∃ a' c', v = .slice a' (X.picks T.cells).length c') ∧ Ext (fun b => b = bl ∨ b = gl) w w' ∧ (refL bt bl gl cl (X.next T.cells)).holds w' ∧ (ownL 59 10 encCell v (outC T.cells (X.picks T.cells))).holds w' ∧ Fresh w w' v := by
  have hl := hO.len
  have htb : ¬ (bt = bl ∨ bt = gl) := hap bt (by simp)
  have htg : ¬ (g = bl ∨ g = gl) := hap g (by simp)
  have hbl := hL.2.1.lt
  have hgl : gl < w.heap.size := ownB_lt hL.2.2 rfl
  obtain ⟨hL1, hL2, hL3⟩ := hL
  obtain ⟨z2, hz2⟩ : ∃ z2, stage2 32 X.cursor (pick1 T.cells X.told 32) = z2 := ⟨_, rfl⟩
  have hpk : X.picks T.cells = z2.2 := congrArg Prod.snd hz2
  have hnx : X.next T.cells = ⟨tellAll T.cells X.told (X.picks T.cells), z2.1⟩ := by rw [← hz2]; rfl
  refine fn_intro tabOk Tryz.func170 (by kernel_rfl) rfl Tryz.ntmps170 (Nat.le_of_ble_eq_true rfl) ?_
  have hS := (St.start w (fun b => b = bl ∨ b = gl)).add (blk_local bl _ _) hL2 (by simp [blk]; exact hbl) (by simp)
  have hS := hS.add ownL_local hL3 (by simp [ownL, own, Value.ownBlock]; exact hgl) (by simp [ownL, own, Value.ownBlock, blk]; exact fun e => hL1 e)
  have hS := hS.add (ownL_local (e := 59) (enc := encCell) (sz := 10) (v := .slice none 0 0) (xs := [])) (own_nil _ _ _) (by simp [ownL, own, Value.ownBlock]) (by simp [ownL, own, Value.ownBlock])
  (conv => whnf)
  refine hS.mkSlice (n := 32) Tryz.underlying291 (sz := 1) (bytes := 1) (by kernel_rfl) (z := .bool false) (by kernel_rfl) (by decide) (by decide) (by decide) (enc := encBo) (xs := takL []) (by simp [takL]) (by kernel_rfl) (fun bk w' hbk hS => ?_)
  replace hS : St w (fun b => b = bl ∨ b = gl) w' (refH bt bl gl cl bk 32 X (.slice none 0 0) T.cells (pick1 T.cells X.told 0)) := hS
  (conv => whnf)
  refine loopR tabOk (fun σ w' q => ∃ (i : Nat) (ov : Value), σ = [(5, .int .i64 i), (4, .slice (some ⟨bk, 0, none⟩) 32 32), (3, ov), (0, .pointer (some ⟨bl, 0, none⟩))] ∧ q = 32 - i ∧ i ≤ 32 ∧ (∃ a' c', ov = .slice a' (pick1 T.cells X.told i).length c') ∧ St w (fun b => b = bl ∨ b = gl) w' (refH bt bl gl cl bk 32 X ov T.cells (pick1 T.cells X.told i)))
    (σ' := [(5, .int .i64 ((0 : Nat) : Int)), (4, .slice (some ⟨bk, 0, none⟩) 32 32), (3, .slice none 0 0), (0, .pointer (some ⟨bl, 0, none⟩))]) (n := 32) ⟨rfl, rfl, rfl, rfl, trivial⟩ ⟨0, _, rfl, rfl, Nat.zero_le _, ⟨none, 0, rfl⟩, hS⟩ ?_
  clear hS
  rintro _ w1 q ⟨k, _, rfl, rfl, hk, ⟨a', c', rfl⟩, hS⟩
  have hp8 := pick1_len T.cells X.told k
  have hps := pick1_succ T.cells X.told k
  unfold refH at hS
  (conv => whnf)
  refine brD (fun h3 => ?_) (fun h3 => ?_)
  · have hk : k < 32 := by omega
    (conv => whnf)
    refine brD (fun h4 => ?_) (fun h4 => ?_)
    · obtain ⟨x, hx⟩ : ∃ x, T.cells[k]? = some x := ⟨_, List.getElem?_eq_getElem (by omega)⟩
      obtain ⟨u, hu⟩ : ∃ u, X.told[k]? = some u := ⟨_, List.getElem?_eq_getElem (by omega)⟩
      have hcell := cellAt_of hx
      have hlb : lagB T.cells X.told k = decide (x.ver ≠ u) := by unfold lagB; rw [verAt_of hx, toldAt_of hu]
      have hcv : w.cell? ⟨g, 0 + Int.toNat (k : Int) * 10 + 1, none⟩ = some (.int .i64 x.ver) := by rw [Nat.zero_add]; exact (refT_at hT hx).one 1 rfl
      have hcx : CellsAt w g (0 + Int.toNat (k : Int) * 10) (encCell x) := by rw [Nat.zero_add]; exact refT_at hT hx
      generalize pick1 T.cells X.told k = p at hS hp8 hps h4
      (conv => whnf)
      (refine drawS tabOk mixed [] No [0, 1, 2, 3, 4, 5, 6, 7, 8, 9, 10, 11, 12, 13, 14, 15, 16, 17, 18] (by kernel_rfl) ?_; rintro w1 rfl; replace hS := hS.drew)
      obtain ⟨bu, ou, u', hu', _, eu, _, hcu⟩ := (ownL_slc (G := fun _ => True) codInt (hS.get 1 rfl) fun _ _ => trivial).at hk
      cases eu
      obtain rfl := Option.some.inj (hu'.symm.trans hu)
      repeat' ((conv => whnf); first | refine RetC.mk ?_ | refine NzC.mk (by decide) ?_ | refine RngC.mk (by omega) (by omega) ?_ | refine IdxC.mk (by omega) (by omega) ?_ | refine IdxC.mk (by omega) (by omega) ?_ | refine hS.ldF 0 rfl rfl id ?_ | refine hS.ldrF (refT_l hT) htb id ?_ | refine hS.ldrF hcv htg id ?_ | refine ldFc (hcu.one 0 rfl) id ?_ | refine brD (fun _ => ?_) (fun _ => ?_) | refine brND (fun _ => ?_) (fun _ => ?_) | refine brN (fun _ => ?_) (fun _ => ?_) | refine brI (fun _ => ?_) (fun _ => ?_))
      · rename_i h5
        rw [if_pos ⟨by rw [hlb]; exact decide_eq_true h5, by omega⟩] at hps
        repeat' ((conv => whnf); first | refine RetC.mk ?_ | refine NzC.mk (by decide) ?_ | refine RngC.mk (by omega) (by omega) ?_ | refine IdxC.mk (by omega) (by omega) ?_ | refine IdxC.mk (by omega) (by omega) ?_ | refine hS.ld 0 rfl rfl ?_ | refine hS.ldr (refT_l hT) htb ?_ | refine hS.lar (l := encCell x) rfl hcx htg ?_ | refine brD (fun _ => ?_) (fun _ => ?_) | refine brND (fun _ => ?_) (fun _ => ?_) | refine brN (fun _ => ?_) (fun _ => ?_) | refine brI (fun _ => ?_) (fun _ => ?_))
        refine hS.lit (cs := encCell x) Tryz.underlying54 (sz := 10) (by kernel_rfl) (z := .agg (encCell ⟨0, 0, noFlow⟩).toArray) (by kernel_rfl) rfl rfl (by rfl) (fun bz w' hbz hS => ?_)
        (conv => whnf)
        refine hS.appS codCell 2 (ys := [x]) (G := fun _ => True) Tryz.underlying54 (bytes := 80) (by kernel_rfl) (z := .agg (encCell ⟨0, 0, noFlow⟩).toArray) (by kernel_rfl) rfl rfl (Slc.of_blk codCell (hS.blk 4 rfl) rfl (by simp) (fun _ _ => trivial) rfl) (by unfold maxLen; rw [outC_len]; omega) (by rw [outC_len]; omega) (fun a2 c2 w' hS => ?_)
        replace hS := hS.keep 4
        have hoc : outC T.cells p ++ [x] = outC T.cells (p ++ [k]) := by simp [outC, hcell]
        rw [outC_len, hoc] at hS
        rw [outC_len]
        (conv => whnf)
        refine IdxC.mk (by omega) (by omega) ?_
        (conv => whnf)
        refine hS.setL codBo 3 (k := k) (x := true) rfl (takL_at (by omega)) (by simp) rfl (fun w' _ hS => ?_)
        replace hS : St w (fun b => b = bl ∨ b = gl) w' [_, _, _, ownL 4 1 encBo (.slice (some ⟨bk, 0, none⟩) 32 32) ((takL p).set k true)] := hS
        rw [takL_set (by omega)] at hS
        have hq : p.length + 1 = (pick1 T.cells X.told (k + 1)).length := by rw [hps]; simp
        rw [hq, ← hps] at hS
        rw [hq]
        (conv => whnf)
        refine RngC.mk (by omega) (by omega) ?_
        (conv => whnf)
        refine LoopE.mk ⟨_, [(5, .int .i64 ((k + 1 : Nat) : Int)), (4, _), (3, _), (0, _)], ?_, ⟨rfl, rfl, rfl, rfl, trivial⟩, ⟨k + 1, _, rfl, rfl, by omega, ⟨a2, c2, rfl⟩, hS⟩⟩
        omega
      · rename_i h5
        rw [if_neg (fun h => by rw [hlb] at h; exact of_decide_eq_true h.1 h5)] at hps
        rw [← hps] at hS ⊢
        refine LoopE.mk ⟨_, [(5, .int .i64 ((k + 1 : Nat) : Int)), (4, _), (3, _), (0, _)], ?_, ⟨rfl, rfl, rfl, rfl, trivial⟩, ⟨k + 1, _, rfl, rfl, by omega, ⟨a', c', rfl⟩, hS⟩⟩
        omega
    · have h32 : pick1 T.cells X.told 32 = pick1 T.cells X.told k := by
        have := pick1_full (l := T.cells) (t := X.told) (k := k) (by omega) (32 - k)
        rwa [show k + (32 - k) = 32 by omega] at this
      rw [← h32] at hS ⊢
      have hp32 := pick1_len T.cells X.told 32
      have hsw : Swept X.cursor 0 X.cursor (pick1 T.cells X.told 32) := ⟨by omega, fun i hi => absurd hi (Nat.not_lt_zero _)⟩
      (conv => whnf)
      refine loopR tabOk (fun σ w' q => ∃ (j cu : Nat) (p : List Nat) (ov : Value), σ = [(4, .slice (some ⟨bk, 0, none⟩) 32 32), (3, ov), (0, .pointer (some ⟨bl, 0, none⟩))] ∧ q = 32 - j ∧ p.length ≤ 8 ∧ cu < 32 ∧ Swept X.cursor j cu p ∧ stage2 (32 - j) cu p = z2 ∧ (∃ a' c', ov = .slice a' p.length c') ∧ St w (fun b => b = bl ∨ b = gl) w' (refH bt bl gl cl bk 32 ⟨X.told, cu⟩ ov T.cells p))
        (σ' := [(4, .slice (some ⟨bk, 0, none⟩) 32 32), (3, .slice a' (pick1 T.cells X.told 32).length c'), (0, .pointer (some ⟨bl, 0, none⟩))]) (n := 32) ⟨rfl, rfl, rfl, trivial⟩ ⟨0, X.cursor, pick1 T.cells X.told 32, _, rfl, rfl, hp32, hc, hsw, hz2, ⟨a', c', rfl⟩, hS⟩ ?_
      clear hS hp32 hsw hp8 hps
      rintro _ w1 q ⟨j, cu, p, _, rfl, rfl, hp8, hcu, hsw, hs2, ⟨a', c', rfl⟩, hS⟩
      unfold refH at hS
      dsimp only at hS
      (conv => whnf)
      refine brD (fun h5 => ?_) (fun h5 => ?_)
      · have h8 : p.length < 8 := by omega
        have hj := hsw.few hc h8
        have hstep := hsw.step
        rw [show 32 - j = (32 - (j + 1)) + 1 by omega, stage2_step h8] at hs2
        obtain ⟨by_, oy, y, hy, _, ey, _, hcy⟩ := (ownL_slc (G := fun _ => True) codBo (hS.get 3 rfl) fun _ _ => trivial).at hcu
        cases ey
        obtain rfl := Option.some.inj (hy.symm.trans (takL_at hcu))
        (conv => whnf)
        refine hS.ld 0 rfl rfl ?_
        (conv => whnf)
        refine IdxC.mk (by omega) (by omega) ?_
        (conv => whnf)
        refine ldc (hcy.one 0 rfl) ?_
        by_cases hcp : cu ∈ p
        · rw [decide_eq_true hcp]
          rw [if_pos hcp] at hs2 hstep
          (conv => whnf)
          refine RngC.mk (by omega) (by omega) ?_
          (conv => whnf)
          refine hS.st 0 rfl (Nat.le_of_ble_eq_true rfl) rfl (fun w' hS => ?_)
          replace hS : St w (fun b => b = bl ∨ b = gl) w' [blk bl 244 [.pointer (some ⟨bt, 0, none⟩), .slice (some ⟨gl, 0, none⟩) 32 cl, .int .i64 ((cu : Int) + 1)], ownL 3 1 encI (.slice (some ⟨gl, 0, none⟩) 32 cl) X.told, ownL 59 10 encCell (.slice a' p.length c') (outC T.cells p), ownL 4 1 encBo (.slice (some ⟨bk, 0, none⟩) 32 32) (takL p)] := hS
          (conv => whnf)
          refine hS.ld 0 rfl rfl ?_
          (conv => whnf)
          refine brD (fun h7 => ?_) (fun h7 => ?_)
          · have hc0 : (cu + 1) % 32 = 0 := by omega
            rw [hc0] at hs2 hstep
            (conv => whnf)
            refine hS.st 0 rfl (Nat.le_of_ble_eq_true rfl) rfl (fun w' hS => ?_)
            (conv => whnf)
            refine LoopE.mk ⟨_, [(4, _), (3, _), (0, _)], ?_, ⟨rfl, rfl, rfl, trivial⟩, ⟨j + 1, 0, p, _, rfl, rfl, hp8, by omega, hstep, hs2, ⟨a', c', rfl⟩, hS⟩⟩
            omega
          · have hc0 : (cu + 1) % 32 = cu + 1 := by omega
            rw [hc0] at hs2 hstep
            (conv => whnf)
            refine LoopE.mk ⟨_, [(4, _), (3, _), (0, _)], ?_, ⟨rfl, rfl, rfl, trivial⟩, ⟨j + 1, cu + 1, p, _, rfl, rfl, hp8, by omega, hstep, hs2, ⟨a', c', rfl⟩, hS⟩⟩
            omega
        · rw [decide_eq_false hcp]
          rw [if_neg hcp] at hs2 hstep
          have hp9 : (p ++ [cu]).length ≤ 8 := by simp; omega
          obtain ⟨x, hx⟩ : ∃ x, T.cells[cu]? = some x := ⟨_, List.getElem?_eq_getElem (by omega)⟩
          have hcell := cellAt_of hx
          have hcx : CellsAt w g (0 + Int.toNat (cu : Int) * 10) (encCell x) := by rw [Nat.zero_add]; exact refT_at hT hx
          (conv => whnf)
          repeat' ((conv => whnf); first | refine RetC.mk ?_ | refine NzC.mk (by decide) ?_ | refine RngC.mk (by omega) (by omega) ?_ | refine IdxC.mk (by omega) (by omega) ?_ | refine IdxC.mk (by omega) (by omega) ?_ | refine hS.ld 0 rfl rfl ?_ | refine hS.ldr (refT_l hT) htb ?_ | refine hS.lar (l := encCell x) rfl hcx htg ?_ | refine brD (fun _ => ?_) (fun _ => ?_) | refine brND (fun _ => ?_) (fun _ => ?_) | refine brN (fun _ => ?_) (fun _ => ?_) | refine brI (fun _ => ?_) (fun _ => ?_))
          refine hS.lit (cs := encCell x) Tryz.underlying54 (sz := 10) (by kernel_rfl) (z := .agg (encCell ⟨0, 0, noFlow⟩).toArray) (by kernel_rfl) rfl rfl (by rfl) (fun bz w' hbz hS => ?_)
          (conv => whnf)
          refine hS.appS codCell 2 (ys := [x]) (G := fun _ => True) Tryz.underlying54 (bytes := 80) (by kernel_rfl) (z := .agg (encCell ⟨0, 0, noFlow⟩).toArray) (by kernel_rfl) rfl rfl (Slc.of_blk codCell (hS.blk 4 rfl) rfl (by simp) (fun _ _ => trivial) rfl) (by unfold maxLen; rw [outC_len]; omega) (by rw [outC_len]; omega) (fun a2 c2 w' hS => ?_)
          replace hS := hS.keep 4
          have hoc : outC T.cells p ++ [x] = outC T.cells (p ++ [cu]) := by simp [outC, hcell]
          rw [outC_len, hoc] at hS
          rw [outC_len]
          (conv => whnf)
          refine IdxC.mk (by omega) (by omega) ?_
          (conv => whnf)
          refine hS.setL codBo 3 (k := cu) (x := true) rfl (takL_at (by omega)) (by simp) rfl (fun w' _ hS => ?_)
          replace hS : St w (fun b => b = bl ∨ b = gl) w' [_, _, _, ownL 4 1 encBo (.slice (some ⟨bk, 0, none⟩) 32 32) ((takL p).set cu true)] := hS
          rw [takL_set (by omega)] at hS
          have hq : p.length + 1 = (p ++ [cu]).length := by simp
          rw [hq] at hS ⊢
          (conv => whnf)
          refine RngC.mk (by omega) (by omega) ?_
          (conv => whnf)
          refine hS.st 0 rfl (Nat.le_of_ble_eq_true rfl) rfl (fun w' hS => ?_)
          replace hS : St w (fun b => b = bl ∨ b = gl) w' [blk bl 244 [.pointer (some ⟨bt, 0, none⟩), .slice (some ⟨gl, 0, none⟩) 32 cl, .int .i64 ((cu : Int) + 1)], ownL 3 1 encI (.slice (some ⟨gl, 0, none⟩) 32 cl) X.told, ownL 59 10 encCell (.slice a2 (p ++ [cu]).length c2) (outC T.cells (p ++ [cu])), ownL 4 1 encBo (.slice (some ⟨bk, 0, none⟩) 32 32) (takL (p ++ [cu]))] := hS
          (conv => whnf)
          refine hS.ld 0 rfl rfl ?_
          (conv => whnf)
          refine brD (fun h7 => ?_) (fun h7 => ?_)
          · have hc0 : (cu + 1) % 32 = 0 := by omega
            rw [hc0] at hs2 hstep
            (conv => whnf)
            refine hS.st 0 rfl (Nat.le_of_ble_eq_true rfl) rfl (fun w' hS => ?_)
            (conv => whnf)
            refine LoopE.mk ⟨_, [(4, _), (3, _), (0, _)], ?_, ⟨rfl, rfl, rfl, trivial⟩, ⟨j + 1, 0, (p ++ [cu]), _, rfl, rfl, hp9, by omega, hstep, hs2, ⟨a2, c2, rfl⟩, hS⟩⟩
            omega
          · have hc0 : (cu + 1) % 32 = cu + 1 := by omega
            rw [hc0] at hs2 hstep
            (conv => whnf)
            refine LoopE.mk ⟨_, [(4, _), (3, _), (0, _)], ?_, ⟨rfl, rfl, rfl, trivial⟩, ⟨j + 1, cu + 1, (p ++ [cu]), _, rfl, rfl, hp9, by omega, hstep, hs2, ⟨a2, c2, rfl⟩, hS⟩⟩
            omega
      · have h8 : ¬ p.length < 8 := by omega
        rw [stage2_done h8] at hs2
        obtain rfl : X.picks T.cells = p := by rw [hpk, ← hs2]
        have hcz : (X.next T.cells).cursor = cu := by rw [hnx, ← hs2]
        have hP := picks_law T.cells hc
        have hlt := hP.lt
        have hpl := hP.len
        have hnt : (X.next T.cells).told = tellAll T.cells X.told (X.picks T.cells) := rfl
        have hnx2 : X.next T.cells = ⟨tellAll T.cells X.told (X.picks T.cells), cu⟩ := by rw [hnx, ← hs2]
        rw [hnx2]
        generalize X.picks T.cells = p at *
        (conv => whnf)
        refine loopR tabOk (fun σ w' q => ∃ i : Nat, σ = [(7, .int .i64 i), (3, .slice a' p.length c'), (0, .pointer (some ⟨bl, 0, none⟩))] ∧ q = 8 - i ∧ i ≤ 8 ∧ St w (fun b => b = bl ∨ b = gl) w' (refH bt bl gl cl bk 32 ⟨tellAll T.cells X.told (p.take i), cu⟩ (.slice a' p.length c') T.cells p))
          (σ' := [(7, .int .i64 ((0 : Nat) : Int)), (3, .slice a' p.length c'), (0, .pointer (some ⟨bl, 0, none⟩))]) (n := 8) ⟨rfl, rfl, rfl, trivial⟩ ⟨0, rfl, rfl, Nat.zero_le _, hS⟩ ?_
        clear hS
        rintro _ w1 q ⟨i, rfl, rfl, hi, hS⟩
        unfold refH at hS
        dsimp only at hS
        (conv => whnf)
        refine brD (fun h6 => ?_) (fun h6 => ?_)
        · have hi8 : i < p.length := by omega
          obtain ⟨k, hk, hok⟩ := out_at hO hlt hi8
          have hk32 := hlt k (List.mem_of_getElem? hk)
          have hlen := (tellAll_len T.cells (p.take i) X.told).trans ht
          obtain ⟨u, hu⟩ : ∃ u, (tellAll T.cells X.told (p.take i))[k]? = some u := ⟨_, List.getElem?_eq_getElem (by omega)⟩
          have hstep : (tellAll T.cells X.told (p.take i)).set k (verAt T.cells k) = tellAll T.cells X.told (p.take (i + 1)) := by
            rw [List.take_add_one, hk]
            exact (tellAll_app _ _ _ _).symm
          (conv => whnf)
          (refine drawS tabOk mixed [] ((· = gl)) [0, 1, 2, 3, 4, 5, 6, 7, 8, 9, 10, 11, 12, 13, 14, 15] (by kernel_rfl) ?_; rintro w1 rfl; replace hS := hS.drew)
          obtain ⟨bo, oo, x, hx, _, rfl, _, hcx⟩ := (ownL_slc (G := fun _ => True) codCell (hS.get 2 rfl) fun _ _ => trivial).at (k := i) hi8
          obtain ⟨hx1, hx2⟩ := hok x hx
          rw [hx2] at hstep
          have hbo : ¬ bo = gl := by
            rintro rfl
            have := pairwise_at apart_symm hS.apart (i := 1) (j := 2) rfl rfl (by decide) bo (by simp [ownL, own, Value.ownBlock])
            simp [ownL, own, Value.ownBlock] at this
          repeat' ((conv => whnf); first | refine IdxC.mk (by omega) (by omega) ?_ | refine hS.ldF 0 rfl rfl hL1 ?_ | refine ldFc (hcx.one 0 rfl) hbo ?_ | refine ldFc (hcx.one 1 rfl) hbo ?_)
          (conv => whnf)
          refine hS.setL codInt 1 (k := k) (x := x.ver) rfl hu (by omega) rfl (fun w' hx' hS => ?_)
          refine KeepC.mk hx' ?_
          replace hS : St w (fun b => b = bl ∨ b = gl) w' (refH bt bl gl cl bk 32 ⟨tellAll T.cells X.told (p.take (i + 1)), cu⟩ (.slice (some ⟨bo, oo, none⟩) p.length c') T.cells p) := by
            rw [← hstep]
            exact hS
          (conv => whnf)
          refine RngC.mk (by omega) (by omega) ?_
          (conv => whnf)
          refine LoopE.mk ⟨_, [(7, .int .i64 ((i + 1 : Nat) : Int)), (3, _), (0, _)], ?_, ⟨rfl, rfl, rfl, trivial⟩, ⟨i + 1, rfl, rfl, by omega, hS⟩⟩
          omega
        · obtain rfl : i = 8 := by omega
          rw [List.take_of_length_le (by omega)] at hS
          repeat' ((conv => whnf); first | refine RetC.mk ?_ | refine NzC.mk (by decide) ?_ | refine RngC.mk (by omega) (by omega) ?_ | refine IdxC.mk (by omega) (by omega) ?_ | refine brD (fun _ => ?_) (fun _ => ?_) | refine brND (fun _ => ?_) (fun _ => ?_) | refine brN (fun _ => ?_) (fun _ => ?_) | refine brI (fun _ => ?_) (fun _ => ?_))
          refine ⟨⟨a', c', rfl⟩, hS.ext, ⟨hL1, hS.blk 0 rfl, hS.get 1 rfl⟩, hS.get 2 rfl, fun q hq => ?_⟩
          obtain ⟨h1, h2⟩ := hS.may _ (List.mem_of_getElem? (i := 2) rfl) q (by simpa [ownL, own] using hq)
          refine ⟨h1.resolve_left ?_, h2⟩
          rintro (rfl | rfl)
          · exact hS.ownBNe 0 2 rfl rfl (by decide) hq
          · have := pairwise_at apart_symm hS.apart (i := 1) (j := 2) rfl rfl (by decide) q (by simp [ownL, own, Value.ownBlock])
            exact this (by simpa [ownL, own] using hq)
  · obtain rfl : k = 32 := by omega
    have hp32 := pick1_len T.cells X.told 32
    have hsw : Swept X.cursor 0 X.cursor (pick1 T.cells X.told 32) := ⟨by omega, fun i hi => absurd hi (Nat.not_lt_zero _)⟩
    (conv => whnf)
    refine loopR tabOk (fun σ w' q => ∃ (j cu : Nat) (p : List Nat) (ov : Value), σ = [(4, .slice (some ⟨bk, 0, none⟩) 32 32), (3, ov), (0, .pointer (some ⟨bl, 0, none⟩))] ∧ q = 32 - j ∧ p.length ≤ 8 ∧ cu < 32 ∧ Swept X.cursor j cu p ∧ stage2 (32 - j) cu p = z2 ∧ (∃ a' c', ov = .slice a' p.length c') ∧ St w (fun b => b = bl ∨ b = gl) w' (refH bt bl gl cl bk 32 ⟨X.told, cu⟩ ov T.cells p))
      (σ' := [(4, .slice (some ⟨bk, 0, none⟩) 32 32), (3, .slice a' (pick1 T.cells X.told 32).length c'), (0, .pointer (some ⟨bl, 0, none⟩))]) (n := 32) ⟨rfl, rfl, rfl, trivial⟩ ⟨0, X.cursor, pick1 T.cells X.told 32, _, rfl, rfl, hp32, hc, hsw, hz2, ⟨a', c', rfl⟩, hS⟩ ?_
    clear hS hp32 hsw hp8 hps
    rintro _ w1 q ⟨j, cu, p, _, rfl, rfl, hp8, hcu, hsw, hs2, ⟨a', c', rfl⟩, hS⟩
    unfold refH at hS
    dsimp only at hS
    (conv => whnf)
    refine brD (fun h5 => ?_) (fun h5 => ?_)
    · have h8 : p.length < 8 := by omega
      have hj := hsw.few hc h8
      have hstep := hsw.step
      rw [show 32 - j = (32 - (j + 1)) + 1 by omega, stage2_step h8] at hs2
      obtain ⟨by_, oy, y, hy, _, ey, _, hcy⟩ := (ownL_slc (G := fun _ => True) codBo (hS.get 3 rfl) fun _ _ => trivial).at hcu
      cases ey
      obtain rfl := Option.some.inj (hy.symm.trans (takL_at hcu))
      (conv => whnf)
      refine hS.ld 0 rfl rfl ?_
      (conv => whnf)
      refine IdxC.mk (by omega) (by omega) ?_
      (conv => whnf)
      refine ldc (hcy.one 0 rfl) ?_
      by_cases hcp : cu ∈ p
      · rw [decide_eq_true hcp]
        rw [if_pos hcp] at hs2 hstep
        (conv => whnf)
        refine RngC.mk (by omega) (by omega) ?_
        (conv => whnf)
        refine hS.st 0 rfl (Nat.le_of_ble_eq_true rfl) rfl (fun w' hS => ?_)
        replace hS : St w (fun b => b = bl ∨ b = gl) w' [blk bl 244 [.pointer (some ⟨bt, 0, none⟩), .slice (some ⟨gl, 0, none⟩) 32 cl, .int .i64 ((cu : Int) + 1)], ownL 3 1 encI (.slice (some ⟨gl, 0, none⟩) 32 cl) X.told, ownL 59 10 encCell (.slice a' p.length c') (outC T.cells p), ownL 4 1 encBo (.slice (some ⟨bk, 0, none⟩) 32 32) (takL p)] := hS
        (conv => whnf)
        refine hS.ld 0 rfl rfl ?_
        (conv => whnf)
        refine brD (fun h7 => ?_) (fun h7 => ?_)
        · have hc0 : (cu + 1) % 32 = 0 := by omega
          rw [hc0] at hs2 hstep
          (conv => whnf)
          refine hS.st 0 rfl (Nat.le_of_ble_eq_true rfl) rfl (fun w' hS => ?_)
          (conv => whnf)
          refine LoopE.mk ⟨_, [(4, _), (3, _), (0, _)], ?_, ⟨rfl, rfl, rfl, trivial⟩, ⟨j + 1, 0, p, _, rfl, rfl, hp8, by omega, hstep, hs2, ⟨a', c', rfl⟩, hS⟩⟩
          omega
        · have hc0 : (cu + 1) % 32 = cu + 1 := by omega
          rw [hc0] at hs2 hstep
          (conv => whnf)
          refine LoopE.mk ⟨_, [(4, _), (3, _), (0, _)], ?_, ⟨rfl, rfl, rfl, trivial⟩, ⟨j + 1, cu + 1, p, _, rfl, rfl, hp8, by omega, hstep, hs2, ⟨a', c', rfl⟩, hS⟩⟩
          omega
      · rw [decide_eq_false hcp]
        rw [if_neg hcp] at hs2 hstep
        have hp9 : (p ++ [cu]).length ≤ 8 := by simp; omega
        obtain ⟨x, hx⟩ : ∃ x, T.cells[cu]? = some x := ⟨_, List.getElem?_eq_getElem (by omega)⟩
        have hcell := cellAt_of hx
        have hcx : CellsAt w g (0 + Int.toNat (cu : Int) * 10) (encCell x) := by rw [Nat.zero_add]; exact refT_at hT hx
        (conv => whnf)
        repeat' ((conv => whnf); first | refine RetC.mk ?_ | refine NzC.mk (by decide) ?_ | refine RngC.mk (by omega) (by omega) ?_ | refine IdxC.mk (by omega) (by omega) ?_ | refine IdxC.mk (by omega) (by omega) ?_ | refine hS.ld 0 rfl rfl ?_ | refine hS.ldr (refT_l hT) htb ?_ | refine hS.lar (l := encCell x) rfl hcx htg ?_ | refine brD (fun _ => ?_) (fun _ => ?_) | refine brND (fun _ => ?_) (fun _ => ?_) | refine brN (fun _ => ?_) (fun _ => ?_) | refine brI (fun _ => ?_) (fun _ => ?_))
        refine hS.lit (cs := encCell x) Tryz.underlying54 (sz := 10) (by kernel_rfl) (z := .agg (encCell ⟨0, 0, noFlow⟩).toArray) (by kernel_rfl) rfl rfl (by rfl) (fun bz w' hbz hS => ?_)
        (conv => whnf)
        refine hS.appS codCell 2 (ys := [x]) (G := fun _ => True) Tryz.underlying54 (bytes := 80) (by kernel_rfl) (z := .agg (encCell ⟨0, 0, noFlow⟩).toArray) (by kernel_rfl) rfl rfl (Slc.of_blk codCell (hS.blk 4 rfl) rfl (by simp) (fun _ _ => trivial) rfl) (by unfold maxLen; rw [outC_len]; omega) (by rw [outC_len]; omega) (fun a2 c2 w' hS => ?_)
        replace hS := hS.keep 4
        have hoc : outC T.cells p ++ [x] = outC T.cells (p ++ [cu]) := by simp [outC, hcell]
        rw [outC_len, hoc] at hS
        rw [outC_len]
        (conv => whnf)
        refine IdxC.mk (by omega) (by omega) ?_
        (conv => whnf)
        refine hS.setL codBo 3 (k := cu) (x := true) rfl (takL_at (by omega)) (by simp) rfl (fun w' _ hS => ?_)
        replace hS : St w (fun b => b = bl ∨ b = gl) w' [_, _, _, ownL 4 1 encBo (.slice (some ⟨bk, 0, none⟩) 32 32) ((takL p).set cu true)] := hS
        rw [takL_set (by omega)] at hS
        have hq : p.length + 1 = (p ++ [cu]).length := by simp
        rw [hq] at hS ⊢
        (conv => whnf)
        refine RngC.mk (by omega) (by omega) ?_
        (conv => whnf)
        refine hS.st 0 rfl (Nat.le_of_ble_eq_true rfl) rfl (fun w' hS => ?_)
        replace hS : St w (fun b => b = bl ∨ b = gl) w' [blk bl 244 [.pointer (some ⟨bt, 0, none⟩), .slice (some ⟨gl, 0, none⟩) 32 cl, .int .i64 ((cu : Int) + 1)], ownL 3 1 encI (.slice (some ⟨gl, 0, none⟩) 32 cl) X.told, ownL 59 10 encCell (.slice a2 (p ++ [cu]).length c2) (outC T.cells (p ++ [cu])), ownL 4 1 encBo (.slice (some ⟨bk, 0, none⟩) 32 32) (takL (p ++ [cu]))] := hS
        (conv => whnf)
        refine hS.ld 0 rfl rfl ?_
        (conv => whnf)
        refine brD (fun h7 => ?_) (fun h7 => ?_)
        · have hc0 : (cu + 1) % 32 = 0 := by omega
          rw [hc0] at hs2 hstep
          (conv => whnf)
          refine hS.st 0 rfl (Nat.le_of_ble_eq_true rfl) rfl (fun w' hS => ?_)
          (conv => whnf)
          refine LoopE.mk ⟨_, [(4, _), (3, _), (0, _)], ?_, ⟨rfl, rfl, rfl, trivial⟩, ⟨j + 1, 0, (p ++ [cu]), _, rfl, rfl, hp9, by omega, hstep, hs2, ⟨a2, c2, rfl⟩, hS⟩⟩
          omega
        · have hc0 : (cu + 1) % 32 = cu + 1 := by omega
          rw [hc0] at hs2 hstep
          (conv => whnf)
          refine LoopE.mk ⟨_, [(4, _), (3, _), (0, _)], ?_, ⟨rfl, rfl, rfl, trivial⟩, ⟨j + 1, cu + 1, (p ++ [cu]), _, rfl, rfl, hp9, by omega, hstep, hs2, ⟨a2, c2, rfl⟩, hS⟩⟩
          omega
    · have h8 : ¬ p.length < 8 := by omega
      rw [stage2_done h8] at hs2
      obtain rfl : X.picks T.cells = p := by rw [hpk, ← hs2]
      have hcz : (X.next T.cells).cursor = cu := by rw [hnx, ← hs2]
      have hP := picks_law T.cells hc
      have hlt := hP.lt
      have hpl := hP.len
      have hnt : (X.next T.cells).told = tellAll T.cells X.told (X.picks T.cells) := rfl
      have hnx2 : X.next T.cells = ⟨tellAll T.cells X.told (X.picks T.cells), cu⟩ := by rw [hnx, ← hs2]
      rw [hnx2]
      generalize X.picks T.cells = p at *
      (conv => whnf)
      refine loopR tabOk (fun σ w' q => ∃ i : Nat, σ = [(7, .int .i64 i), (3, .slice a' p.length c'), (0, .pointer (some ⟨bl, 0, none⟩))] ∧ q = 8 - i ∧ i ≤ 8 ∧ St w (fun b => b = bl ∨ b = gl) w' (refH bt bl gl cl bk 32 ⟨tellAll T.cells X.told (p.take i), cu⟩ (.slice a' p.length c') T.cells p))
        (σ' := [(7, .int .i64 ((0 : Nat) : Int)), (3, .slice a' p.length c'), (0, .pointer (some ⟨bl, 0, none⟩))]) (n := 8) ⟨rfl, rfl, rfl, trivial⟩ ⟨0, rfl, rfl, Nat.zero_le _, hS⟩ ?_
      clear hS
      rintro _ w1 q ⟨i, rfl, rfl, hi, hS⟩
      unfold refH at hS
      dsimp only at hS
      (conv => whnf)
      refine brD (fun h6 => ?_) (fun h6 => ?_)
      · have hi8 : i < p.length := by omega
        obtain ⟨k, hk, hok⟩ := out_at hO hlt hi8
        have hk32 := hlt k (List.mem_of_getElem? hk)
        have hlen := (tellAll_len T.cells (p.take i) X.told).trans ht
        obtain ⟨u, hu⟩ : ∃ u, (tellAll T.cells X.told (p.take i))[k]? = some u := ⟨_, List.getElem?_eq_getElem (by omega)⟩
        have hstep : (tellAll T.cells X.told (p.take i)).set k (verAt T.cells k) = tellAll T.cells X.told (p.take (i + 1)) := by
          rw [List.take_add_one, hk]
          exact (tellAll_app _ _ _ _).symm
        (conv => whnf)
        (refine drawS tabOk mixed [] ((· = gl)) [0, 1, 2, 3, 4, 5, 6, 7, 8, 9, 10, 11, 12, 13, 14, 15] (by kernel_rfl) ?_; rintro w1 rfl; replace hS := hS.drew)
        obtain ⟨bo, oo, x, hx, _, rfl, _, hcx⟩ := (ownL_slc (G := fun _ => True) codCell (hS.get 2 rfl) fun _ _ => trivial).at (k := i) hi8
        obtain ⟨hx1, hx2⟩ := hok x hx
        rw [hx2] at hstep
        have hbo : ¬ bo = gl := by
          rintro rfl
          have := pairwise_at apart_symm hS.apart (i := 1) (j := 2) rfl rfl (by decide) bo (by simp [ownL, own, Value.ownBlock])
          simp [ownL, own, Value.ownBlock] at this
        repeat' ((conv => whnf); first | refine IdxC.mk (by omega) (by omega) ?_ | refine hS.ldF 0 rfl rfl hL1 ?_ | refine ldFc (hcx.one 0 rfl) hbo ?_ | refine ldFc (hcx.one 1 rfl) hbo ?_)
        (conv => whnf)
        refine hS.setL codInt 1 (k := k) (x := x.ver) rfl hu (by omega) rfl (fun w' hx' hS => ?_)
        refine KeepC.mk hx' ?_
        replace hS : St w (fun b => b = bl ∨ b = gl) w' (refH bt bl gl cl bk 32 ⟨tellAll T.cells X.told (p.take (i + 1)), cu⟩ (.slice (some ⟨bo, oo, none⟩) p.length c') T.cells p) := by
          rw [← hstep]
          exact hS
        (conv => whnf)
        refine RngC.mk (by omega) (by omega) ?_
        (conv => whnf)
        refine LoopE.mk ⟨_, [(7, .int .i64 ((i + 1 : Nat) : Int)), (3, _), (0, _)], ?_, ⟨rfl, rfl, rfl, trivial⟩, ⟨i + 1, rfl, rfl, by omega, hS⟩⟩
        omega
      · obtain rfl : i = 8 := by omega
        rw [List.take_of_length_le (by omega)] at hS
        repeat' ((conv => whnf); first | refine RetC.mk ?_ | refine NzC.mk (by decide) ?_ | refine RngC.mk (by omega) (by omega) ?_ | refine IdxC.mk (by omega) (by omega) ?_ | refine brD (fun _ => ?_) (fun _ => ?_) | refine brND (fun _ => ?_) (fun _ => ?_) | refine brN (fun _ => ?_) (fun _ => ?_) | refine brI (fun _ => ?_) (fun _ => ?_))
        refine ⟨⟨a', c', rfl⟩, hS.ext, ⟨hL1, hS.blk 0 rfl, hS.get 1 rfl⟩, hS.get 2 rfl, fun q hq => ?_⟩
        obtain ⟨h1, h2⟩ := hS.may _ (List.mem_of_getElem? (i := 2) rfl) q (by simpa [ownL, own] using hq)
        refine ⟨h1.resolve_left ?_, h2⟩
        rintro (rfl | rfl)
        · exact hS.ownBNe 0 2 rfl rfl (by decide) hq
        · have := pairwise_at apart_symm hS.apart (i := 1) (j := 2) rfl rfl (by decide) q (by simp [ownL, own, Value.ownBlock])
          exact this (by simpa [ownL, own] using hq)
end
end Go.Proofs.YtoaghhcjlfiflaaGreatDoor

/-
  The map literal of package track: what it holds, whatever order it was filled in; its lookup.
-/
namespace Go.Proofs.YtoaghhcjlfiflaaGreatDoor
open Go Ev Go.Instr

theorem ck (e : Bool) (a b : Int) (w : World) : (checkKey e 10000 274 (.agg #[.int .i64 a, .int .i64 b])).run Tryz.prog w = .ok () w := by cases e <;> kernel_rfl

theorem run_int (d : Nat) (a b : Int) (w : World) : (Op.equalIn (d + 1) 3 (.int .i64 a) (.int .i64 b)).run Tryz.prog w = .ok (a == b) w := by
  have hu := Tryz.underlying3
  simp [Op.equalIn, underlying, hu]
theorem part_k (i : Nat) (a b : Int) (v : Value) (h : [Value.int .i64 a, Value.int .i64 b][i]? = some v) (w : World) : (part 3 #[.int .i64 a, .int .i64 b] i).run Tryz.prog w = .ok v w :=
  part_run1 (cs := [.int .i64 a, .int .i64 b]) ⟨_, Tryz.underlying3⟩ h (by kernel_rfl) w
theorem eqKey (a b c d : Int) (w : World) : (Op.equalIn 10000 274 (.agg #[.int .i64 a, .int .i64 b]) (.agg #[.int .i64 c, .int .i64 d])).run Tryz.prog w = .ok (a == c && b == d) w := by
  have hS : Tryz.prog.underlying 274 = some (.struct (Tryz.prog.fieldsOf 274)) := by kernel_rfl
  rw [show (10000 : Nat) = 9999 + 1 from rfl, run_equalIn_struct w 9999 274 _ _ hS (by kernel_rfl)]
  simp only [Program.fieldsOf, Tryz.underlying274]
  have p0 := part_k 0 a b (.int .i64 a) rfl
  have p1 := part_k 1 a b (.int .i64 b) rfl
  have q0 := part_k 0 c d (.int .i64 c) rfl
  have q1 := part_k 1 c d (.int .i64 d) rfl
  have r : ∀ x y w, (Op.equalIn 9999 3 (.int .i64 x) (.int .i64 y)).run Tryz.prog w = .ok (x == y) w := fun x y w => run_int 9998 x y w
  simp only [Op.eqFields, show ("proto" : String) ≠ "_" by decide, show ("state" : String) ≠ "_" by decide, ne_eq, not_false_eq_true, if_true, Sem.run_bind, p0, p1, q0, q1, Result.andThen_ok, r]
  cases h1 : a == c <;> cases h2 : b == d <;> simp [Sem.run_bind, p0, p1, q0, q1, r, h2]

/-- An entry, its key two numbers. -/
def kEnt (k : (Int × Int × Int) × Nat) : MapEntry := ⟨.agg #[.int .i64 k.1.1, .int .i64 k.1.2.1], .int .i64 k.1.2.2, k.2⟩
def kFind (p s : Int) : List ((Int × Int × Int) × Nat) → Nat → Option (Nat × Value)
  | [], _ => none
  | ((a, b, v), _) :: r, n => match p == a && s == b with | true => some (n, .int .i64 v) | false => kFind p s r (n + 1)
def kLook (p s : Int) : List ((Int × Int × Int) × Nat) → Int
  | [] => 0
  | ((a, b, v), _) :: r => if p = a ∧ s = b then v else kLook p s r
def kObj (l : List ((Int × Int × Int) × Nat)) (c : Nat) : Obj := .map (l.map kEnt).toArray c

theorem kFind_look (p s : Int) : ∀ (l : List ((Int × Int × Int) × Nat)) (n : Nat), kFind p s l n = none ∧ kLook p s l = 0 ∨ ∃ i, kFind p s l n = some (i, .int .i64 (kLook p s l))
  | [], n => .inl ⟨rfl, rfl⟩
  | ((a, b, v), c) :: r, n => by
    unfold kFind kLook
    cases h : p == a && s == b
    · rw [if_neg (by rintro ⟨rfl, rfl⟩; simp at h)]
      exact kFind_look p s r (n + 1)
    · rw [if_pos (by simpa using h)]
      exact .inr ⟨_, rfl⟩

theorem findAsking_k (p s : Int) (w : World) : ∀ (l : List ((Int × Int × Int) × Nat)) (n : Nat), (findAsking 274 (.agg #[.int .i64 p, .int .i64 s]) (l.map kEnt) n).run Tryz.prog w = .ok (kFind p s l n) w
  | [], n => rfl
  | ((a, b, v), c) :: r, n => by
    rw [List.map_cons, findAsking, Sem.run_bind]
    rw [show Op.equal 274 (.agg #[.int .i64 p, .int .i64 s]) (kEnt ((a, b, v), c)).key = Op.equalIn 10000 274 (.agg #[.int .i64 p, .int .i64 s]) (.agg #[.int .i64 a, .int .i64 b]) from rfl, eqKey, Result.andThen_ok]
    unfold kFind
    cases p == a && s == b
    · exact findAsking_k p s w r (n + 1)
    · rfl

theorem findKey_k (p s : Int) (w : World) (l : List ((Int × Int × Int) × Nat)) : (findKey 274 (.agg #[.int .i64 p, .int .i64 s]) (l.map kEnt)).run Tryz.prog w = .ok (kFind p s l 0) w := by
  have hu := Tryz.underlying274
  have h0 : (findKey 274 (.agg #[.int .i64 p, .int .i64 s]) (l.map kEnt)) = (do match findNow (← underlying 274) (.agg #[.int .i64 p, .int .i64 s]) (l.map kEnt) 0 with | some r => pure r | none => findAsking 274 (.agg #[.int .i64 p, .int .i64 s]) (l.map kEnt)) := rfl
  rw [h0, Sem.run_bind, run_underlying hu, Result.andThen_ok]
  cases l with
  | nil => rfl
  | cons x r =>
    obtain ⟨⟨a, b, v⟩, c⟩ := x
    exact findAsking_k p s w (((a, b, v), c) :: r) 0

theorem mapLook {r : Nat} {w : World} {l : List ((Int × Int × Int) × Nat)} {clock : Nat} (p s : Int) (hb : w.heap[r]? = some (kObj l clock)) :
    (Instr.lookup 271 (.map (some r)) (.agg #[.int .i64 p, .int .i64 s]) false).run Tryz.prog w = .ok (.int .i64 (kLook p s l)) w := by
  have hm := Tryz.underlying271
  have hg : (getObj r).run Tryz.prog w = .ok (kObj l clock) w := by simp [getObj, Sem.run, hb, kObj]
  have hz : (zeroValue 3).run Tryz.prog w = .ok (.int .i64 0) w := by kernel_rfl
  have hk := findKey_k p s w l
  unfold kObj at hg
  simp only [Instr.lookup, Sem.run_bind, run_underlying hm, Result.andThen_ok, hg, Sem.run_pure, ck, hk]
  rcases kFind_look p s l 0 with ⟨h1, h2⟩ | ⟨i, h1⟩
  · simp [h1, h2, hz, Sem.run_bind]
  · simp [h1]

/-- A map whose key is not there is given one. -/
theorem mapIns {r : Nat} {w : World} {l : List ((Int × Int × Int) × Nat)} {clock : Nat} (a b v : Int) (hb : w.heap[r]? = some (kObj l clock)) (hn : kFind a b l 0 = none) :
    (Instr.mapUpdate 271 (.map (some r)) (.agg #[.int .i64 a, .int .i64 b]) (.int .i64 v)).run Tryz.prog w = .ok () { w with heap := w.heap.setIfInBounds r (kObj (l ++ [((a, b, v), clock)]) (clock + 1)) } := by
  have hg : (getObj r).run Tryz.prog w = .ok (kObj l clock) w := by simp [getObj, Sem.run, hb, kObj]
  have hm := Tryz.underlying271
  unfold kObj at hg
  have hk := findKey_k a b w l
  rw [hn] at hk
  simp only [Instr.mapUpdate, Sem.run_bind, run_underlying hm, Result.andThen_ok, hg, ck, hk]
  simp [setObj, Sem.run, hb, kObj, kEnt]

def kmap (r : Nat) (l : List ((Int × Int × Int) × Nat)) (c : Nat) : Ent := ⟨[r], fun w => w.heap[r]? = some (kObj l c)⟩
theorem kmap_local (r : Nat) (l : List ((Int × Int × Int) × Nat)) (c : Nat) : (kmap r l c).Local := fun w w' h hb => by
  have := h r (by simp [kmap])
  simpa [kmap, this] using hb

theorem Ev.St.mkMap {w0 w : World} {H : List Ent} {k : Value → World → Prop} (h : St w0 No w H) (hk : ∀ r w', w0.heap.size ≤ r → St w0 No w' (H ++ [kmap r [] 0]) → k (.map (some r)) w') : RunC Tryz.prog (Instr.makeMap 271 none) w k := by
  refine ⟨.map (some w.heap.size), { w with heap := w.heap.push (.map #[] 0) }, rfl, hk _ _ h.ext.size (h.made ⟨rfl, rfl, rfl, by simp, fun i hi _ => ?_⟩ (kmap_local _ _ _) ?_ ?_)⟩
  · show (w.heap.push _)[i]? = _
    rw [Array.getElem?_push, if_neg (by omega)]
  · show (w.heap.push _)[w.heap.size]? = _
    rw [Array.getElem?_push, if_pos rfl]
    rfl
  · intro b hb
    obtain rfl : b = w.heap.size := by simpa [kmap] using hb
    simp
theorem Ev.St.ins {w0 w : World} {H : List Ent} (h : St w0 No w H) (i : Nat) {r : Nat} {l : List ((Int × Int × Int) × Nat)} {c : Nat} {a b v : Int} {k : World → Prop} (hi : H[i]? = some (kmap r l c)) (hn : kFind a b l 0 = none)
    (hk : ∀ w', Ext (· = r) w w' → St w0 No w' (H.set i (kmap r (l ++ [((a, b, v), c)]) (c + 1))) → k w') : RunU Tryz.prog (Instr.mapUpdate 271 (.map (some r)) (.agg #[.int .i64 a, .int .i64 b]) (.int .i64 v)) w k := by
  have hb : w.heap[r]? = some (kObj l c) := h.get i hi
  have hx : Ext (· = r) w { w with heap := w.heap.setIfInBounds r (kObj (l ++ [((a, b, v), c)]) (c + 1)) } := ⟨rfl, rfl, rfl, by simp, fun j hj hs => by
    have : r ≠ j := fun e => hs e.symm
    simp [this]⟩
  refine ⟨_, mapIns a b v hb hn, hk _ hx (h.upd i hi hx (fun d hd => by simp [kmap, hd]) (kmap_local _ _ _) ?_ fun d hd => .inl hd)⟩
  have := (Array.getElem?_eq_some_iff.1 hb).1
  show (w.heap.setIfInBounds r _)[r]? = _
  simp [this]

def timeS (p s : Int) : Int := if p = 1 then 60 else if p ≠ 2 then 0 else if s = 1 then 10 else if s = 2 then 100 else if s = 3 then 5 else 0
end Go.Proofs.YtoaghhcjlfiflaaGreatDoor

/-
  Package track and its reference, walked.
-/
namespace Go.Proofs.YtoaghhcjlfiflaaGreatDoor
open Go Ev

def nextS (p s f : Int) (o : Bool) : Int × Bool :=
  if p ≠ 2 then (s, false) else if band f 8 ≠ 0 then (0, true) else if band f 4 ≠ 0 then (3, false)
  else if s = 1 ∧ o = false ∧ band f 1 ≠ 0 ∧ band f 2 ≠ 0 then (2, false) else (s, false)

theorem next_ok (p s f : Int) (o : Bool) (w : World) : CallC Tryz.prog 189 #[.int .i64 p, .int .i64 s, .int .i64 f, .bool o] w fun v w' => v = .tuple #[.int .i64 (nextS p s f o).1, .bool (nextS p s f o).2] ∧ w = w' := by
  refine fn_intro tabOk Tryz.func189 (by kernel_rfl) rfl Tryz.ntmps189 (Nat.le_of_ble_eq_true rfl) ?_
  repeat' ((conv => whnf); first | refine RetC.mk ?_ | refine NzC.mk (by decide) ?_ | refine RngC.mk (by omega) (by omega) ?_ | refine IdxC.mk (by omega) (by omega) ?_ | refine brD (fun _ => ?_) (fun _ => ?_) | refine brND (fun _ => ?_) (fun _ => ?_) | refine brN (fun _ => ?_) (fun _ => ?_) | refine brI (fun _ => ?_) (fun _ => ?_))
  all_goals simp_all [nextS]

def beginS (p f : Int) : Int × Nat :=
  if p ≠ 1 ∧ p ≠ 2 ∨ f < 0 ∨ 15 < f then (0, 2) else if p = 1 then (2, 0) else if f ≠ 1 then (0, 9) else (1, 0)
theorem beginS_code (p f : Int) : (beginS p f).2 < 12 := by
  unfold beginS
  repeat' split
  all_goals decide

theorem begin_ok {E : Nat → Addr} {n : Nat} (p f : Int) (w : World) (hE : Errs w E n [2, 9]) : CallC Tryz.prog 192 #[.int .i64 p, .int .i64 f] w fun v w' => v = .tuple #[.int .i64 (beginS p f).1, errV E (beginS p f).2] ∧ Ext No w w' := by
  refine fn_intro tabOk Tryz.func192 (by kernel_rfl) rfl Tryz.ntmps192 (Nat.le_of_ble_eq_true rfl) ?_
  have hS := St.start w No
  repeat' ((conv => whnf); first | refine RetC.mk ?_ | refine NzC.mk (by decide) ?_ | refine RngC.mk (by omega) (by omega) ?_ | refine IdxC.mk (by omega) (by omega) ?_ | refine hS.ldrF (hE.at_ 2 rfl) id id ?_ | refine hS.ldrF (hE.at_ 9 rfl) id id ?_ | (refine drawL tabOk mixed [] No [0, 1, 2] rfl (by kernel_rfl) ?_; rintro w1 rfl; replace hS := hS.drew) | refine brD (fun _ => ?_) (fun _ => ?_) | refine brND (fun _ => ?_) (fun _ => ?_) | refine brN (fun _ => ?_) (fun _ => ?_) | refine brI (fun _ => ?_) (fun _ => ?_))
  all_goals refine ⟨?_, hS.ext⟩
  all_goals clear hE hS
  all_goals unfold beginS
  all_goals ((repeat' split) <;> first | rfl | (exfalso; omega) | (simp_all [over, cellsL]; done) | (simp_all [over, cellsL]; omega) | trace_state)

theorem times_ok (w : World) : CallC Tryz.prog 198 #[] w fun v w' => ∃ r l c, v = .map (some r) ∧ Ext No w w' ∧ w'.heap[r]? = some (kObj l c) ∧ ∀ p s, p ≠ 1 → kLook p s l = timeS p s := by
  refine fn_intro tabOk Tryz.func198 (by kernel_rfl) rfl Tryz.ntmps198 (Nat.le_of_ble_eq_true rfl) ?_
  (conv => whnf)
  refine drawT tabOk mixed [] No (.take 1 (.take 3 (.take 5 (.alt 0
    (.alt 2 (.alt 4 (.alt 6 (.take 7 (.take 8 .fin)) .fin) (.alt 6 (.alt 4 (.take 7 (.take 8 .fin)) .fin) .fin))
    (.alt 4 (.alt 2 (.alt 6 (.take 7 (.take 8 .fin)) .fin) (.alt 6 (.alt 2 (.take 7 (.take 8 .fin)) .fin) .fin))
    (.alt 6 (.alt 2 (.alt 4 (.take 7 (.take 8 .fin)) .fin) (.alt 4 (.alt 2 (.take 7 (.take 8 .fin)) .fin) .fin)) .fin))) .fin)))) (by kernel_rfl) ?_
  intro w1 hw1
  have hS := St.start w1 No
  have hx0 : Ext No w w1 := by subst hw1; exact Ext.drawn _ _ _
  clear hw1
  repeat' ((conv => whnf); first | refine RetC.mk ?_ | refine And.intro ?_ ?_ | refine hS.mkMap (fun r w' hr hS => ?_) | refine hS.ins 0 rfl rfl (fun w' hx hS => ?_) | refine KeepC.mk hS.ext ?_)
  all_goals refine ⟨_, _, _, rfl, hx0.trans hS.ext, hS.get 0 rfl, fun p s hp => ?_⟩
  all_goals clear hS hx0
  all_goals simp only [List.nil_append, List.cons_append, kLook, timeS]
  all_goals (by_cases h2 : p = 2 <;> by_cases s1 : s = 1 <;> by_cases s2 : s = 2 <;> by_cases s3 : s = 3 <;> simp_all)

theorem time_ok (p s : Int) (w : World) : CallC Tryz.prog 148 #[.int .i64 p, .int .i64 s] w fun v w' => v = .int .i64 (timeS p s) ∧ Ext No w w' := by
  refine fn_intro tabOk Tryz.func148 (by kernel_rfl) rfl Tryz.ntmps148 (Nat.le_of_ble_eq_true rfl) ?_
  (conv => whnf)
  refine brD (fun h => ?_) (fun h => ?_)
  · repeat' ((conv => whnf); first | refine RetC.mk ?_ | refine NzC.mk (by decide) ?_ | refine RngC.mk (by omega) (by omega) ?_ | refine IdxC.mk (by omega) (by omega) ?_ | refine brD (fun _ => ?_) (fun _ => ?_) | refine brND (fun _ => ?_) (fun _ => ?_) | refine brN (fun _ => ?_) (fun _ => ?_) | refine brI (fun _ => ?_) (fun _ => ?_))
    exact ⟨by simp [timeS, h], Ext.refl _ _⟩
  · (conv => whnf)
    refine (times_ok w).mono ?_
    rintro v w' ⟨r, l, c, rfl, hx, hr, hk⟩
    (conv => whnf)
    refine ⟨_, _, mapLook p s hr, ?_⟩
    repeat' ((conv => whnf); first | refine RetC.mk ?_ | refine NzC.mk (by decide) ?_ | refine RngC.mk (by omega) (by omega) ?_ | refine IdxC.mk (by omega) (by omega) ?_ | refine brD (fun _ => ?_) (fun _ => ?_) | refine brND (fun _ => ?_) (fun _ => ?_) | refine brN (fun _ => ?_) (fun _ => ?_) | refine brI (fun _ => ?_) (fun _ => ?_))
    exact ⟨by rw [hk p s h], hx⟩

/-! ### The reference -/
theorem band_bit (x : Int) (k : Nat) (hk : k < 4) : band x (2 ^ k : Nat) = 0 ∨ band x (2 ^ k : Nat) = (2 ^ k : Nat) := by
  have h1 : BitVec.ofInt 64 ((2 ^ k : Nat) : Int) = BitVec.twoPow 64 k := by
    match k, hk with
    | 0, _ | 1, _ | 2, _ | 3, _ => rfl
    | n + 4, h => omega
  unfold band
  rw [h1, BitVec.and_twoPow]
  split
  · right
    match k, hk with
    | 0, _ | 1, _ | 2, _ | 3, _ => rfl
    | n + 4, h => omega
  · left
    rfl
theorem bit_eq (x : Int) (k : Nat) (hk : k < 4) : (band x (2 ^ k : Nat) == ((2 ^ k : Nat) : Int)) = decide (band x (2 ^ k : Nat) ≠ 0) := by
  have h2 : ((2 ^ k : Nat) : Int) ≠ 0 := by
    match k, hk with
    | 0, _ | 1, _ | 2, _ | 3, _ => decide
    | n + 4, h => omega
  rcases band_bit x k hk with h | h
  · rw [h]; simpa using h2.symm
  · rw [h]; simpa using h2

theorem bit_ok (x y : Int) (w : World) : CallC Tryz.prog 216 #[.int .i64 x, .int .i64 y] w fun v w' => v = .bool (band x y == y) ∧ w = w' := by
  refine fn_intro tabOk Tryz.func216 (by kernel_rfl) rfl Tryz.ntmps216 (Nat.le_of_ble_eq_true rfl) ?_
  repeat' ((conv => whnf); first | refine RetC.mk ?_ | refine NzC.mk (by decide) ?_ | refine RngC.mk (by omega) (by omega) ?_ | refine IdxC.mk (by omega) (by omega) ?_ | refine brD (fun _ => ?_) (fun _ => ?_) | refine brND (fun _ => ?_) (fun _ => ?_) | refine brN (fun _ => ?_) (fun _ => ?_) | refine brI (fun _ => ?_) (fun _ => ?_))
  exact ⟨rfl, rfl⟩

theorem nextOf_ok (p s f : Int) (o : Bool) (w : World) : CallC Tryz.prog 208 #[.int .i64 p, .int .i64 s, .int .i64 f, .bool o] w fun v w' => v = .tuple #[.int .i64 (nextS p s f o).1, .bool (nextS p s f o).2] ∧ w = w' := by
  have b0 := bit_eq f 0 (by decide)
  have b1 := bit_eq f 1 (by decide)
  have b2 := bit_eq f 2 (by decide)
  have b3 := bit_eq f 3 (by decide)
  simp only [show ((2 ^ 0 : Nat) : Int) = 1 from rfl, show ((2 ^ 1 : Nat) : Int) = 2 from rfl, show ((2 ^ 2 : Nat) : Int) = 4 from rfl, show ((2 ^ 3 : Nat) : Int) = 8 from rfl] at b0 b1 b2 b3
  have c0 := bit_ok f 1 w
  have c1 := bit_ok f 2 w
  have c2 := bit_ok f 4 w
  have c3 := bit_ok f 8 w
  rw [b0] at c0
  rw [b1] at c1
  rw [b2] at c2
  rw [b3] at c3
  clear b0 b1 b2 b3
  refine fn_intro tabOk Tryz.func208 (by kernel_rfl) rfl Tryz.ntmps208 (Nat.le_of_ble_eq_true rfl) ?_
  repeat' ((conv => whnf); first | refine RetC.mk ?_ | refine NzC.mk (by decide) ?_ | refine RngC.mk (by omega) (by omega) ?_ | refine IdxC.mk (by omega) (by omega) ?_ | (refine c3.mono ?_; rintro v w' ⟨rfl, rfl⟩) | (refine c2.mono ?_; rintro v w' ⟨rfl, rfl⟩) | (refine c1.mono ?_; rintro v w' ⟨rfl, rfl⟩) | (refine c0.mono ?_; rintro v w' ⟨rfl, rfl⟩) | refine brD (fun _ => ?_) (fun _ => ?_) | refine brND (fun _ => ?_) (fun _ => ?_) | refine brN (fun _ => ?_) (fun _ => ?_) | refine brI (fun _ => ?_) (fun _ => ?_))
  all_goals simp_all [nextS]

theorem beginOf_ok (p f : Int) (w : World) : CallC Tryz.prog 175 #[.int .i64 p, .int .i64 f] w fun v w' => v = .tuple #[.int .i64 (beginS p f).1, .int .i64 (beginS p f).2] ∧ w = w' := by
  refine fn_intro tabOk Tryz.func175 (by kernel_rfl) rfl Tryz.ntmps175 (Nat.le_of_ble_eq_true rfl) ?_
  repeat' ((conv => whnf); first | refine RetC.mk ?_ | refine NzC.mk (by decide) ?_ | refine RngC.mk (by omega) (by omega) ?_ | refine IdxC.mk (by omega) (by omega) ?_ | refine brD (fun _ => ?_) (fun _ => ?_) | refine brND (fun _ => ?_) (fun _ => ?_) | refine brN (fun _ => ?_) (fun _ => ?_) | refine brI (fun _ => ?_) (fun _ => ?_))
  all_goals refine ⟨?_, rfl⟩
  all_goals unfold beginS
  all_goals ((repeat' split) <;> first | rfl | (exfalso; omega) | (simp_all [over, cellsL]; done) | (simp_all [over, cellsL]; omega) | trace_state)

theorem timeOf_ok (p s : Int) (w : World) : CallC Tryz.prog 168 #[.int .i64 p, .int .i64 s] w fun v w' => v = .int .i64 (timeS p s) ∧ w = w' := by
  refine fn_intro tabOk Tryz.func168 (by kernel_rfl) rfl Tryz.ntmps168 (Nat.le_of_ble_eq_true rfl) ?_
  repeat' ((conv => whnf); first | refine RetC.mk ?_ | refine NzC.mk (by decide) ?_ | refine RngC.mk (by omega) (by omega) ?_ | refine IdxC.mk (by omega) (by omega) ?_ | refine brD (fun _ => ?_) (fun _ => ?_) | refine brND (fun _ => ?_) (fun _ => ?_) | refine brN (fun _ => ?_) (fun _ => ?_) | refine brI (fun _ => ?_) (fun _ => ?_))
  all_goals refine ⟨?_, rfl⟩
  all_goals unfold timeS
  all_goals ((repeat' split) <;> first | rfl | (exfalso; omega) | (simp_all [over, cellsL]; done) | (simp_all [over, cellsL]; omega) | trace_state)
end Go.Proofs.YtoaghhcjlfiflaaGreatDoor

/-
  Package role, walked.
-/
namespace Go.Proofs.YtoaghhcjlfiflaaGreatDoor
open Go Ev

structure RoleS where
  node : Int
  epoch : Int
  silence : Int
  active : Bool

def encRole (r : RoleS) : List Value := [.int .i64 r.node, .int .i64 r.epoch, .int .i64 r.silence, .bool r.active]

structure RoleS.Ok (r : RoleS) : Prop where
  n0 : r.node = 0 ∨ r.node = 1
  e0 : 0 ≤ r.epoch
  e1 : r.epoch ≤ 1073741824
  s0 : 0 ≤ r.silence
  s1 : r.silence ≤ 1000000000000

def RoleS.next (r : RoleS) : Int × Nat :=
  let e := if (r.epoch + 1).tmod 2 ≠ r.node then r.epoch + 1 + 1 else r.epoch + 1
  if e > 1073741824 then (0, 2) else (e, 0)
def RoleS.tick (r : RoleS) : Bool × RoleS := if r.active then (false, r) else (decide (r.silence + 1 > 9), { r with silence := r.silence + 1 })
def RoleS.claim (r : RoleS) (e : Int) : Nat × RoleS :=
  if r.active then (11, r) else if r.next.2 ≠ 0 then (r.next.2, r) else if r.next.1 ≠ e then (3, r) else (0, { r with active := true, epoch := e })
def RoleS.hear (r : RoleS) (e : Int) : Bool × RoleS :=
  if e < 0 ∨ e > 1073741824 then (false, r) else
  let d := if e > r.epoch then r.active else false
  let r1 := if e > r.epoch then { r with epoch := e, active := false } else r
  (d, if r1.active = false ∧ e = r1.epoch then { r1 with silence := 0 } else r1)

section
variable {w : World} {b : Nat} {r : RoleS}

theorem role_active (hb : Blk w b 115 (encRole r)) : CallC Tryz.prog 20 #[.pointer (some ⟨b, 0, none⟩)] w fun v w' => v = .bool r.active ∧ w = w' := by
  refine fn_intro tabOk Tryz.func20 (by kernel_rfl) rfl Tryz.ntmps20 (Nat.le_of_ble_eq_true rfl) ?_
  have hS := (St.start w (· = b)).add (blk_local b _ _) hb (by simp [blk]; exact hb.lt) (by simp)
  repeat' ((conv => whnf); first | refine RetC.mk ?_ | refine NzC.mk (by decide) ?_ | refine RngC.mk (by omega) (by omega) ?_ | refine IdxC.mk (by omega) (by omega) ?_ | refine hS.ld 0 rfl rfl ?_ | refine brD (fun _ => ?_) (fun _ => ?_) | refine brND (fun _ => ?_) (fun _ => ?_) | refine brN (fun _ => ?_) (fun _ => ?_) | refine brI (fun _ => ?_) (fun _ => ?_))
  exact ⟨rfl, rfl⟩

theorem role_epoch (hb : Blk w b 115 (encRole r)) : CallC Tryz.prog 22 #[.pointer (some ⟨b, 0, none⟩)] w fun v w' => v = .int .i64 r.epoch ∧ w = w' := by
  refine fn_intro tabOk Tryz.func22 (by kernel_rfl) rfl Tryz.ntmps22 (Nat.le_of_ble_eq_true rfl) ?_
  have hS := (St.start w (· = b)).add (blk_local b _ _) hb (by simp [blk]; exact hb.lt) (by simp)
  repeat' ((conv => whnf); first | refine RetC.mk ?_ | refine NzC.mk (by decide) ?_ | refine RngC.mk (by omega) (by omega) ?_ | refine IdxC.mk (by omega) (by omega) ?_ | refine hS.ld 0 rfl rfl ?_ | refine brD (fun _ => ?_) (fun _ => ?_) | refine brND (fun _ => ?_) (fun _ => ?_) | refine brN (fun _ => ?_) (fun _ => ?_) | refine brI (fun _ => ?_) (fun _ => ?_))
  exact ⟨rfl, rfl⟩

theorem role_tick (hb : Blk w b 115 (encRole r)) (hr : r.Ok) : CallC Tryz.prog 100 #[.pointer (some ⟨b, 0, none⟩)] w fun v w' => v = .bool r.tick.1 ∧ Ext (· = b) w w' ∧ Blk w' b 115 (encRole r.tick.2) := by
  have h1 := hr.s1
  have h0 := hr.s0
  refine fn_intro tabOk Tryz.func100 (by kernel_rfl) rfl Tryz.ntmps100 (Nat.le_of_ble_eq_true rfl) ?_
  have hS := (St.start w (· = b)).add (blk_local b _ _) hb (by simp [blk]; exact hb.lt) (by simp)
  (conv => whnf)
  refine hS.ld 0 rfl rfl ?_
  (conv => whnf)
  refine brI (fun ha => ?_) (fun ha => ?_)
  · repeat' ((conv => whnf); first | refine RetC.mk ?_ | refine NzC.mk (by decide) ?_ | refine RngC.mk (by omega) (by omega) ?_ | refine IdxC.mk (by omega) (by omega) ?_ | refine brD (fun _ => ?_) (fun _ => ?_) | refine brND (fun _ => ?_) (fun _ => ?_) | refine brN (fun _ => ?_) (fun _ => ?_) | refine brI (fun _ => ?_) (fun _ => ?_))
    have e : r.tick = (false, r) := by simp [RoleS.tick, ha]
    rw [e]
    exact ⟨rfl, hS.ext, hS.blk 0 rfl⟩
  · repeat' ((conv => whnf); first | refine RetC.mk ?_ | refine NzC.mk (by decide) ?_ | refine RngC.mk (by omega) (by omega) ?_ | refine IdxC.mk (by omega) (by omega) ?_ | refine hS.ld 0 rfl rfl ?_ | refine hS.st 0 rfl (Nat.le_of_ble_eq_true rfl) rfl (fun w' hS => ?_) | refine brD (fun _ => ?_) (fun _ => ?_) | refine brND (fun _ => ?_) (fun _ => ?_) | refine brN (fun _ => ?_) (fun _ => ?_) | refine brI (fun _ => ?_) (fun _ => ?_))
    have e : r.tick = (decide (r.silence + 1 > 9), { r with silence := r.silence + 1 }) := by simp [RoleS.tick, ha]
    rw [e]
    exact ⟨rfl, hS.ext, hS.blk 0 rfl⟩

theorem tmod2 {x : Int} (h : 0 ≤ x) : x.tmod 2 = x % 2 := Int.tmod_eq_emod_of_nonneg h

theorem role_next {E : Nat → Addr} (hb : Blk w b 115 (encRole r)) (hr : r.Ok) {n : Nat} (hE : Errs w E n [2]) :
    CallC Tryz.prog 145 #[.pointer (some ⟨b, 0, none⟩)] w fun v w' => v = .tuple #[.int .i64 r.next.1, errV E r.next.2] ∧ Ext No w w' := by
  have h1 := hr.e1
  have h0 := hr.e0
  refine fn_intro tabOk Tryz.func145 (by kernel_rfl) rfl Tryz.ntmps145 (Nat.le_of_ble_eq_true rfl) ?_
  have hS := St.start w No
  repeat' ((conv => whnf); first | refine hS.ldr (show w.cell? ⟨b, 0 + 0, none⟩ = _ from hb.cell _) id ?_ | refine hS.ldr (show w.cell? ⟨b, 0 + 1, none⟩ = _ from hb.cell _) id ?_ | (refine drawS tabOk mixed [] No [0, 1, 2] (by kernel_rfl) ?_; rintro w1 rfl; replace hS := hS.drew) | refine hS.ldrF (hE.at_ 2 rfl) id id ?_ | refine RetC.mk ?_ | refine NzC.mk (by decide) ?_ | refine RngC.mk (by omega) (by omega) ?_ | refine brD (fun _ => ?_) (fun _ => ?_) | refine brND (fun _ => ?_) (fun _ => ?_))
  all_goals refine ⟨?_, hS.ext⟩
  all_goals clear hb hE hS
  all_goals unfold RoleS.next; dsimp only
  all_goals ((repeat' split) <;> first | rfl | (exfalso; omega) | (simp_all [over, cellsL]; done) | (simp_all [over, cellsL]; omega) | trace_state)

theorem role_claim {E : Nat → Addr} (e : Int) (hb : Blk w b 115 (encRole r)) (hr : r.Ok) {n : Nat} (hE : Errs w E n [2, 3, 11]) (hn : n ≤ b) :
    CallC Tryz.prog 146 #[.pointer (some ⟨b, 0, none⟩), .int .i64 e] w fun v w' => v = errV E (r.claim e).1 ∧ Ext (· = b) w w' ∧ Blk w' b 115 (encRole (r.claim e).2) := by
  refine fn_intro tabOk Tryz.func146 (by kernel_rfl) rfl Tryz.ntmps146 (Nat.le_of_ble_eq_true rfl) ?_
  have hS := (St.start w (· = b)).add (blk_local b _ _) hb (by simp [blk]; exact hb.lt) (by simp)
  (conv => whnf)
  have g2 := hE.lt 2 rfl
  have g3 := hE.lt 3 rfl
  have g11 := hE.lt 11 rfl
  simp only [gErr] at g2 g3 g11
  refine (role_next hb hr (hE.sub rfl)).mono ?_
  rintro v w' ⟨rfl, hx⟩
  replace hS := hS.no hx
  obtain ⟨x, k, hk, hk2⟩ : ∃ x k, r.next = (x, k) ∧ (k = 0 ∨ k = 2) := by
    refine ⟨r.next.1, r.next.2, rfl, ?_⟩
    unfold RoleS.next
    dsimp only
    split <;> split <;> simp
  rw [hk]
  rcases hk2 with rfl | rfl
  all_goals repeat' ((conv => whnf); first | refine RetC.mk ?_ | refine NzC.mk (by decide) ?_ | refine RngC.mk (by omega) (by omega) ?_ | refine IdxC.mk (by omega) (by omega) ?_ | refine hS.ld 0 rfl rfl ?_ | refine hS.ldr (hE.at_ 2 rfl) (hE.ne 2 rfl hn) ?_ | refine hS.ldr (hE.at_ 3 rfl) (hE.ne 3 rfl hn) ?_ | refine hS.ldr (hE.at_ 11 rfl) (hE.ne 11 rfl hn) ?_ | refine hS.st 0 rfl (Nat.le_of_ble_eq_true rfl) rfl (fun w' hS => ?_) | refine brD (fun _ => ?_) (fun _ => ?_) | refine brND (fun _ => ?_) (fun _ => ?_) | refine brN (fun _ => ?_) (fun _ => ?_) | refine brI (fun _ => ?_) (fun _ => ?_))
  all_goals have hB := hS.blk 0 rfl
  all_goals refine ⟨?_, hS.ext, hB.to ?_⟩
  all_goals clear hB hS
  all_goals unfold RoleS.claim; rw [hk]; dsimp only [encRole]
  all_goals ((repeat' split) <;> first | rfl | (exfalso; omega) | (simp_all [over, cellsL]; done) | (simp_all [over, cellsL]; omega) | trace_state)

theorem role_hear (e : Int) (hb : Blk w b 115 (encRole r)) : CallC Tryz.prog 105 #[.pointer (some ⟨b, 0, none⟩), .int .i64 e] w fun v w' => v = .bool (r.hear e).1 ∧ Ext (· = b) w w' ∧ Blk w' b 115 (encRole (r.hear e).2) := by
  refine fn_intro tabOk Tryz.func105 (by kernel_rfl) rfl Tryz.ntmps105 (Nat.le_of_ble_eq_true rfl) ?_
  have hS := (St.start w (· = b)).add (blk_local b _ _) hb (by simp [blk]; exact hb.lt) (by simp)
  repeat' ((conv => whnf); first | refine RetC.mk ?_ | refine NzC.mk (by decide) ?_ | refine RngC.mk (by omega) (by omega) ?_ | refine IdxC.mk (by omega) (by omega) ?_ | refine hS.ld 0 rfl rfl ?_ | refine hS.st 0 rfl (Nat.le_of_ble_eq_true rfl) rfl (fun w' hS => ?_) | refine brD (fun _ => ?_) (fun _ => ?_) | refine brND (fun _ => ?_) (fun _ => ?_) | refine brN (fun _ => ?_) (fun _ => ?_) | refine brI (fun _ => ?_) (fun _ => ?_))
  all_goals have hB := hS.blk 0 rfl
  all_goals refine ⟨?_, hS.ext, hB.to ?_⟩
  all_goals clear hB hS hb
  all_goals unfold RoleS.hear; dsimp only [encRole]
  all_goals ((repeat' split) <;> first | rfl | (exfalso; omega) | (simp_all [over, cellsL]; done) | (simp_all [over, cellsL]; omega) | trace_state)

theorem role_new (a e : Int) (w : World) (ha : a = 0 ∨ a = 1) (h0 : 0 ≤ e) (h1 : e ≤ 1073741824) : CallC Tryz.prog 90 #[.int .i64 a, .int .i64 e] w fun v w' =>
    ∃ b, v = .tuple #[.pointer (some ⟨b, 0, none⟩), .nilIface] ∧ w.heap.size ≤ b ∧ Ext No w w' ∧ Blk w' b 115 (encRole ⟨a, e, 0, false⟩) := by
  refine fn_intro tabOk Tryz.func90 (by kernel_rfl) rfl Tryz.ntmps90 (Nat.le_of_ble_eq_true rfl) ?_
  have hS := St.start w No
  repeat' ((conv => whnf); first | refine hS.new (fun b w' hb hS => ?_) | refine RetC.mk ?_ | refine brD (fun _ => ?_) (fun _ => ?_) | refine brND (fun _ => ?_) (fun _ => ?_))
  all_goals first | (exfalso; omega) | exact ⟨_, rfl, hb, hS.ext, hS.blk 0 rfl⟩

theorem role_new_bad {E : Nat → Addr} {n : Nat} (a e : Int) (w : World) (h : ¬ ((a = 0 ∨ a = 1) ∧ 0 ≤ e ∧ e ≤ 1073741824)) (hE : Errs w E n [2]) : CallC Tryz.prog 90 #[.int .i64 a, .int .i64 e] w fun v w' =>
    v = .tuple #[.pointer none, errV E 2] ∧ Ext No w w' := by
  refine fn_intro tabOk Tryz.func90 (by kernel_rfl) rfl Tryz.ntmps90 (Nat.le_of_ble_eq_true rfl) ?_
  have hS := St.start w No
  repeat' ((conv => whnf); first | (refine drawS tabOk mixed [] No [0, 1, 2] (by kernel_rfl) ?_; rintro w1 rfl; replace hS := hS.drew) | refine hS.ldrF (hE.at_ 2 rfl) id id ?_ | refine hS.new (fun b w' hb hS => ?_) | refine RetC.mk ?_ | refine brD (fun _ => ?_) (fun _ => ?_) | refine brND (fun _ => ?_) (fun _ => ?_))
  all_goals first | (exfalso; omega) | exact ⟨rfl, hS.ext⟩

end
end Go.Proofs.YtoaghhcjlfiflaaGreatDoor

/-
  packet.Number and packet.Value, walked: a number as so many bytes, and back.
-/
namespace Go.Proofs.YtoaghhcjlfiflaaGreatDoor
open Go Ev

/-- The last i of m bytes of a number. -/
def numK (n m i : Nat) : List UInt8 := (List.range m).map fun j => if m ≤ j + i then UInt8.ofNat (n / 256 ^ (m - 1 - j)) else 0
def numB (n m : Nat) : List UInt8 := (List.range m).map fun j => UInt8.ofNat (n / 256 ^ (m - 1 - j))
theorem numK_len (n m i : Nat) : (numK n m i).length = m := by simp [numK]
theorem numB_len (n m : Nat) : (numB n m).length = m := by simp [numB]
theorem numK_zero (n m : Nat) : numK n m 0 = List.replicate m 0 := by
  apply List.ext_getElem?
  intro j
  by_cases h : j < m
  · have : ¬ m ≤ j := by omega
    simp [numK, h, this]
  · simp [numK, h]
theorem numK_full (n m : Nat) : numK n m m = numB n m := by
  unfold numK numB
  apply List.map_congr_left
  intro j _
  rw [if_pos (by omega)]
theorem numK_at {n m i j : Nat} (h : j < m) : (numK n m i)[j]? = some (if m ≤ j + i then UInt8.ofNat (n / 256 ^ (m - 1 - j)) else 0) := by simp [numK, h]
theorem numK_set {n m i : Nat} (h : i < m) : (numK n m i).set (m - 1 - i) (UInt8.ofNat (n / 256 ^ i)) = numK n m (i + 1) := by
  apply List.ext_getElem?
  intro j
  rw [List.getElem?_set]
  by_cases e : m - 1 - i = j
  · subst e
    rw [if_pos rfl, if_pos (by rw [numK_len]; omega), numK_at (by omega), if_pos (by omega), show m - 1 - (m - 1 - i) = i by omega]
  · rw [if_neg e]
    by_cases hj : j < m
    · rw [numK_at hj, numK_at hj]
      by_cases h1 : m ≤ j + i
      · rw [if_pos h1, if_pos (by omega)]
      · rw [if_neg h1, if_neg (by omega)]
    · rw [List.getElem?_eq_none (by rw [numK_len]; omega), List.getElem?_eq_none (by rw [numK_len]; omega)]
theorem byte_of (q : Nat) : ((UInt8.ofNat q).toNat : Int) = (q : Int) % 256 := by
  rw [UInt8.toNat_ofNat']
  omega

theorem own_cells {α : Type} {w : World} {sz n c g : Nat} {e : TypeId} {enc : α → List Value} (C : Codec sz enc) {xs : List α} (h : (ownL e sz enc (.slice (some ⟨g, 0, none⟩) n c) xs).holds w) : CellsAt w g 0 (xs.flatMap enc) := by
  obtain ⟨_, ⟨h1, _⟩ | ⟨g', cap, cur, h1, h2, h3, h4, h5, h6, h7⟩⟩ := h
  · cases h1
  · cases h1
    intro j v hj
    have hlt := (List.getElem?_eq_some_iff.1 hj).1
    rw [flat_len C] at hlt
    rw [← h7, List.getElem?_take_of_lt (by omega)] at hj
    simp only [World.cell?, h3, Nat.zero_add]
    simpa using hj
theorem rep_flat : ∀ m : Nat, List.replicate m (Value.int .u8 0) = (List.replicate m (0 : UInt8)).flatMap encU
  | 0 => rfl
  | m + 1 => by rw [List.replicate_succ, List.replicate_succ, List.flatMap_cons, ← rep_flat m]; rfl
theorem shr_byte (n i : Nat) : IntKind.u8.wrap ((n : Int) / 2 ^ (8 * i)) = ((UInt8.ofNat (n / 256 ^ i)).toNat : Int) := by
  rw [IntKind.wrap_u8', byte_of, Int.pow_mul]
  have : ((2 : Int) ^ 8) ^ i = ((256 ^ i : Nat) : Int) := by simp
  rw [this, ← Int.natCast_ediv]
theorem number_ok (n m : Nat) (hm : m ≤ 7) (_hn : n < 9223372036854775808) (w : World) :
    CallC Tryz.prog 182 #[.int .i64 (n : Int), .int .i64 (m : Int)] w fun v w' => v = .string (bs (numB n m)) ∧ Ext No w w' := by
  refine fn_intro tabOk Tryz.func182 (by kernel_rfl) rfl Tryz.ntmps182 (Nat.le_of_ble_eq_true rfl) ?_
  have hS := St.start w No
  (conv => whnf)
  refine hS.mkSlice (n := m) Tryz.underlying169 (sz := 1) (bytes := 1) (by kernel_rfl) (z := .int .u8 0) (by kernel_rfl) (by omega) (by omega) (by unfold maxLen; omega) (enc := encU) (xs := numK n m 0) (numK_len _ _ _) (by rw [numK_zero, show (Value.int .u8 0).cells = #[.int .u8 0] from rfl, made_rep, Nat.mul_one]; exact rep_flat m) (fun g w' hg hS => ?_)
  (conv => whnf)
  refine loopR tabOk (fun σ w' q => ∃ i : Nat, σ = [(10, .int .i64 i), (9, .int .i64 m), (5, .slice (some ⟨g, 0, none⟩) m m), (1, .int .i64 m), (0, .int .i64 n)] ∧ q = m - i ∧ i ≤ m ∧ St w No w' [ownL 5 1 encU (.slice (some ⟨g, 0, none⟩) m m) (numK n m i)])
    (σ' := [(10, .int .i64 ((0 : Nat) : Int)), (9, .int .i64 m), (5, .slice (some ⟨g, 0, none⟩) m m), (1, .int .i64 m), (0, .int .i64 n)]) (n := m) ⟨rfl, rfl, rfl, rfl, rfl, trivial⟩ ⟨0, rfl, rfl, Nat.zero_le _, hS⟩ ?_
  clear hS
  rintro _ w1 q ⟨i, rfl, rfl, hi, hS⟩
  (conv => whnf)
  refine brD (fun h3 => ?_) (fun h3 => ?_)
  · have hi2 : i < m := by omega
    repeat' ((conv => whnf); first | refine RetC.mk ?_ | refine NzC.mk (by decide) ?_ | refine RngC.mk (by omega) (by omega) ?_ | refine IdxC.mk (by omega) (by omega) ?_ | refine RngC.mk (by omega) (by omega) ?_ | refine brD (fun _ => ?_) (fun _ => ?_) | refine brND (fun _ => ?_) (fun _ => ?_) | refine brN (fun _ => ?_) (fun _ => ?_) | refine brI (fun _ => ?_) (fun _ => ?_))
    refine shrC (n := 8 * i) (by omega) (by show 8 * i ≤ 64; omega) ?_
    (conv => whnf)
    refine convI (kd := .u8) (by kernel_rfl) Tryz.underlying5 (shr_byte n i) ?_
    (conv => whnf)
    refine IdxC.mk (by omega) (by omega) ?_
    (conv => whnf)
    refine hS.setL codU 0 (k := m - 1 - i) (x := UInt8.ofNat (n / 256 ^ i)) rfl (numK_at (by omega)) (by omega) rfl (fun w' _ hS => ?_)
    rw [numK_set hi2] at hS
    (conv => whnf)
    refine RngC.mk (by omega) (by omega) ?_
    (conv => whnf)
    refine LoopE.mk ⟨_, [(10, .int .i64 ((i + 1 : Nat) : Int)), (9, _), (5, _), (1, _), (0, _)], ?_, ⟨rfl, rfl, rfl, rfl, rfl, trivial⟩, ⟨i + 1, rfl, rfl, by omega, hS⟩⟩
    omega
  · obtain rfl : i = m := by omega
    rw [numK_full] at hS
    obtain ⟨_, _, h0⟩ : ∃ b o, CellsAt w1 g 0 ((numB n i).flatMap encU) := ⟨0, 0, own_cells codU (hS.get 0 rfl)⟩
    (conv => whnf)
    refine strC Tryz.underlying169 Tryz.underlying5 Tryz.underlying9 h0 (numB_len _ _) ?_
    repeat' ((conv => whnf); first | refine RetC.mk ?_ | refine NzC.mk (by decide) ?_ | refine RngC.mk (by omega) (by omega) ?_ | refine IdxC.mk (by omega) (by omega) ?_ | refine brD (fun _ => ?_) (fun _ => ?_) | refine brND (fun _ => ?_) (fun _ => ?_) | refine brN (fun _ => ?_) (fun _ => ?_) | refine brI (fun _ => ?_) (fun _ => ?_))
    exact ⟨rfl, hS.ext⟩

/-! ### Back -/
def valB (l : List UInt8) : Nat := l.foldl (fun n b => n * 256 + b.toNat) 0
theorem valB_step {l : List UInt8} {k : Nat} {x : UInt8} (h : l[k]? = some x) : valB (l.take (k + 1)) = valB (l.take k) * 256 + x.toNat := by
  unfold valB
  rw [List.take_add_one, h, List.foldl_append]
  rfl
theorem valB_app (l : List UInt8) (x : UInt8) : valB (l ++ [x]) = valB l * 256 + x.toNat := by
  unfold valB
  rw [List.foldl_append]
  rfl
theorem foldB_lt : ∀ (l : List UInt8) (n c : Nat), n < 256 ^ c → l.foldl (fun n b => n * 256 + b.toNat) n < 256 ^ (c + l.length)
  | [], n, c, h => by simpa using h
  | x :: l, n, c, h => by
    have hx := x.toNat_lt
    have := foldB_lt l (n * 256 + x.toNat) (c + 1) (by rw [Nat.pow_succ]; omega)
    rw [List.foldl_cons, List.length_cons, show c + (l.length + 1) = c + 1 + l.length by omega]
    exact this
theorem valB_lt (l : List UInt8) : valB l < 256 ^ l.length := by
  have := foldB_lt l 0 0 (by simp)
  rwa [Nat.zero_add] at this
theorem or_add {a b : Nat} (hb : b < 256) : a * 256 ||| b = a * 256 + b := by
  have := Nat.shiftLeft_add_eq_or_of_lt (i := 8) (b := b) (by omega) a
  rw [Nat.shiftLeft_eq] at this
  exact this.symm
theorem value_ok (l : List UInt8) (hl : l.length ≤ 7) (w : World) :
    CallC Tryz.prog 132 #[.string (bs l)] w fun v w' => v = .int .i64 (valB l : Nat) ∧ Ext No w w' := by
  refine fn_intro tabOk Tryz.func132 (by kernel_rfl) rfl Tryz.ntmps132 (Nat.le_of_ble_eq_true rfl) ?_
  have hS := St.start w No
  (conv => whnf)
  rw [bs_size]
  refine loopR tabOk (fun σ w' q => ∃ i : Nat, σ = [(7, .int .i64 i), (6, .int .i64 (l.length : Nat)), (3, .int .i64 (valB (l.take i) : Nat)), (0, .string (bs l))] ∧ q = l.length - i ∧ i ≤ l.length ∧ St w No w' [])
    (σ' := [(7, .int .i64 ((0 : Nat) : Int)), (6, .int .i64 (l.length : Nat)), (3, .int .i64 ((0 : Nat) : Int)), (0, .string (bs l))]) (n := l.length) ⟨rfl, rfl, rfl, rfl, trivial⟩ ⟨0, rfl, rfl, Nat.zero_le _, hS⟩ ?_
  clear hS
  rintro _ w1 q ⟨i, rfl, rfl, hi, hS⟩
  (conv => whnf)
  refine brD (fun h3 => ?_) (fun h3 => ?_)
  · obtain ⟨x, hx⟩ : ∃ x, l[i]? = some x := ⟨_, List.getElem?_eq_getElem (by omega)⟩
    have hst := valB_step hx
    have hlt := valB_lt (l.take i)
    have h7 : 256 ^ (l.take i).length ≤ 256 ^ 6 := Nat.pow_le_pow_right (by omega) (by rw [List.length_take]; omega)
    have hx8 := x.toNat_lt
    generalize valB (l.take i) = v at hst hlt
    have hv : v < 281474976710656 := Nat.lt_of_lt_of_le hlt h7
    (conv => whnf)
    refine shlC (n := 8) (m := ((v * 256 : Nat) : Int)) rfl (by decide) (by rw [IntKind.wrap_i64]; omega) ?_
    (conv => whnf)
    refine idxS Tryz.underlying9 rfl hx ?_
    (conv => whnf)
    refine convI (kd := .i64) (m := (x.toNat : Int)) (by kernel_rfl) Tryz.underlying3 (by rw [IntKind.wrap_i64]; omega) ?_
    (conv => whnf)
    refine orC64 (a := v * 256) (by omega) (by omega) ?_
    rw [or_add (by omega), ← hst]
    (conv => whnf)
    refine RngC.mk (by omega) (by omega) ?_
    (conv => whnf)
    refine LoopE.mk ⟨_, [(7, .int .i64 ((i + 1 : Nat) : Int)), (6, _), (3, .int .i64 (valB (l.take (i + 1)) : Nat)), (0, _)], ?_, ⟨rfl, rfl, rfl, rfl, trivial⟩, ⟨i + 1, rfl, rfl, by omega, hS⟩⟩
    omega
  · obtain rfl : i = l.length := by omega
    rw [List.take_length]
    repeat' ((conv => whnf); first | refine RetC.mk ?_ | refine NzC.mk (by decide) ?_ | refine RngC.mk (by omega) (by omega) ?_ | refine IdxC.mk (by omega) (by omega) ?_ | refine brD (fun _ => ?_) (fun _ => ?_) | refine brND (fun _ => ?_) (fun _ => ?_) | refine brN (fun _ => ?_) (fun _ => ?_) | refine brI (fun _ => ?_) (fun _ => ?_))
    exact ⟨rfl, hS.ext⟩
/-- There and back. -/
theorem numB_succ (n m : Nat) : numB n (m + 1) = numB (n / 256) m ++ [UInt8.ofNat n] := by
  unfold numB
  rw [List.range_succ, List.map_append]
  congr 1
  · apply List.map_congr_left
    intro j hj
    have hj := List.mem_range.1 hj
    rw [show m + 1 - 1 - j = (m - 1 - j) + 1 by omega, Nat.pow_succ, Nat.mul_comm, ← Nat.div_div_eq_div_mul]
  · simp
theorem valB_num : ∀ (m n : Nat), valB (numB n m) = n % 256 ^ m
  | 0, n => by simp [numB, valB, Nat.mod_one]
  | m + 1, n => by
    have h : (256 : Nat) ^ (m + 1) = 256 * 256 ^ m := Nat.pow_succ'
    rw [numB_succ, valB_app, valB_num m, UInt8.toNat_ofNat', h, Nat.mod_mul]
    omega
end Go.Proofs.YtoaghhcjlfiflaaGreatDoor

/-
  cell.sum and cell.body, walked: what a cell's record is.
-/
namespace Go.Proofs.YtoaghhcjlfiflaaGreatDoor
open Go Ev

def crcBit (c : Nat) : Nat := c / 2 ^ 1 ^^^ 3988292384 * (c &&& 1)
def crcIt : Nat → Nat → Nat
  | 0, c => c
  | k + 1, c => crcBit (crcIt k c)
def crcByte (c : Nat) (b : UInt8) : Nat := crcIt 8 (c ^^^ b.toNat)
def crcN (l : List UInt8) : Nat := l.foldl crcByte 4294967295
def sumB (l : List UInt8) : Nat := 4294967295 ^^^ crcN l
theorem and1_le (c : Nat) : c &&& 1 ≤ 1 := by
  rw [Nat.and_one_is_mod]
  omega
theorem crcBit_lt {c : Nat} (h : c < 4294967296) : crcBit c < 4294967296 := by
  have h1 := and1_le c
  have : 3988292384 * (c &&& 1) ≤ 3988292384 * 1 := Nat.mul_le_mul_left _ h1
  exact Nat.xor_lt_two_pow (n := 32) (by omega) (by omega)
theorem crcIt_lt {c : Nat} (h : c < 4294967296) : ∀ k, crcIt k c < 4294967296
  | 0 => h
  | k + 1 => crcBit_lt (crcIt_lt h k)
theorem xor_byte {c : Nat} (h : c < 4294967296) (b : UInt8) : c ^^^ b.toNat < 4294967296 := by
  have := b.toNat_lt
  exact Nat.xor_lt_two_pow (n := 32) (by omega) (by omega)
theorem crcByte_lt {c : Nat} (h : c < 4294967296) (b : UInt8) : crcByte c b < 4294967296 := crcIt_lt (xor_byte h b) 8
theorem crcF_lt : ∀ (l : List UInt8) (c : Nat), c < 4294967296 → l.foldl crcByte c < 4294967296
  | [], _, h => h
  | x :: l, c, h => crcF_lt l (crcByte c x) (crcByte_lt h x)
theorem crcN_lt (l : List UInt8) : crcN l < 4294967296 := crcF_lt l _ (by omega)
theorem sumB_lt (l : List UInt8) : sumB l < 4294967296 := Nat.xor_lt_two_pow (n := 32) (by omega) (crcN_lt l)
theorem crcN_step {l : List UInt8} {k : Nat} {x : UInt8} (h : l[k]? = some x) : crcN (l.take (k + 1)) = crcByte (crcN (l.take k)) x := by
  unfold crcN
  rw [List.take_add_one, h, List.foldl_append]
  rfl

theorem sum_ok (l : List UInt8) (hl : l.length ≤ 1000000) (w : World) :
    CallC Tryz.prog 183 #[.string (bs l)] w fun v w' => v = .int .i64 (sumB l : Nat) ∧ Ext No w w' := by
  refine fn_intro tabOk Tryz.func183 (by kernel_rfl) rfl Tryz.ntmps183 (Nat.le_of_ble_eq_true rfl) ?_
  have hS := St.start w No
  (conv => whnf)
  rw [bs_size]
  refine loopR tabOk (fun σ w' q => ∃ i : Nat, σ = [(7, .int .i64 i), (6, .int .i64 (l.length : Nat)), (3, .int .u32 (crcN (l.take i) : Nat)), (0, .string (bs l))] ∧ q = l.length - i ∧ i ≤ l.length ∧ St w No w' [])
    (σ' := [(7, .int .i64 ((0 : Nat) : Int)), (6, .int .i64 (l.length : Nat)), (3, .int .u32 ((4294967295 : Nat) : Int)), (0, .string (bs l))]) (n := l.length) ⟨rfl, rfl, rfl, rfl, trivial⟩ ⟨0, rfl, rfl, Nat.zero_le _, hS⟩ ?_
  clear hS
  rintro _ w1 q ⟨i, rfl, rfl, hi, hS⟩
  (conv => whnf)
  refine brD (fun h3 => ?_) (fun h3 => ?_)
  · obtain ⟨x, hx⟩ : ∃ x, l[i]? = some x := ⟨_, List.getElem?_eq_getElem (by omega)⟩
    have hst := crcN_step hx
    have hlt := crcN_lt (l.take i)
    have hx8 := x.toNat_lt
    generalize crcN (l.take i) = c at hst hlt
    have hxl := xor_byte hlt x
    (conv => whnf)
    refine idxS Tryz.underlying9 rfl hx ?_
    (conv => whnf)
    refine convI (kd := .u32) (m := (x.toNat : Int)) (by kernel_rfl) Tryz.underlying293 (by rw [IntKind.wrap_u32']; omega) ?_
    (conv => whnf)
    refine xorC32 hlt (by omega) ?_
    (conv => whnf)
    refine loopR tabOk (fun σ w' q => ∃ j : Nat, σ = [(16, .int .i64 j), (7, .int .i64 i), (6, .int .i64 (l.length : Nat)), (3, .int .u32 (crcIt j (c ^^^ x.toNat) : Nat)), (0, .string (bs l))] ∧ q = 8 - j ∧ j ≤ 8 ∧ St w No w' [])
      (σ' := [(16, .int .i64 ((0 : Nat) : Int)), (7, .int .i64 i), (6, .int .i64 (l.length : Nat)), (3, .int .u32 (crcIt 0 (c ^^^ x.toNat) : Nat)), (0, .string (bs l))]) (n := 8) ⟨rfl, rfl, rfl, rfl, rfl, trivial⟩ ⟨0, rfl, rfl, Nat.zero_le _, hS⟩ ?_
    clear hS
    rintro _ w2 q ⟨j, rfl, rfl, hj, hS⟩
    have hd := crcIt_lt hxl j
    have hd2 := crcIt_lt hxl (j + 1)
    have hdd : crcIt (j + 1) (c ^^^ x.toNat) = crcBit (crcIt j (c ^^^ x.toNat)) := rfl
    have h88 : crcByte c x = crcIt 8 (c ^^^ x.toNat) := rfl
    (conv => whnf)
    refine brD (fun h4 => ?_) (fun h4 => ?_)
    · generalize crcIt j (c ^^^ x.toNat) = d at hd hdd
      have h1 := and1_le d
      have h2 : 3988292384 * (d &&& 1) ≤ 3988292384 * 1 := Nat.mul_le_mul_left _ h1
      (conv => whnf)
      refine shrN (n := 1) rfl (by decide) ?_
      (conv => whnf)
      refine andC32 (b := 1) hd (by omega) ?_
      (conv => whnf)
      refine mulC32 (a := 3988292384) (by omega) ?_
      (conv => whnf)
      refine xorC32 (by omega) (by omega) ?_
      (conv => whnf)
      refine RngC.mk (by omega) (by omega) ?_
      (conv => whnf)
      refine LoopE.mk ⟨_, [(16, .int .i64 ((j + 1 : Nat) : Int)), (7, _), (6, _), (3, .int .u32 (crcIt (j + 1) (c ^^^ x.toNat) : Nat)), (0, _)], ?_, ⟨rfl, rfl, rfl, by rw [hdd]; rfl, rfl, trivial⟩, ⟨j + 1, rfl, rfl, by omega, hS⟩⟩
      omega
    · obtain rfl : j = 8 := by omega
      rw [← h88, ← hst]
      (conv => whnf)
      refine RngC.mk (by omega) (by omega) ?_
      (conv => whnf)
      refine LoopE.mk ⟨_, [(7, .int .i64 ((i + 1 : Nat) : Int)), (6, _), (3, _), (0, _)], ?_, ⟨rfl, rfl, rfl, rfl, trivial⟩, ⟨i + 1, rfl, rfl, by omega, hS⟩⟩
      omega
  · obtain rfl : i = l.length := by omega
    rw [List.take_length]
    have h1 := crcN_lt l
    have h2 := sumB_lt l
    (conv => whnf)
    refine notC32 h1 ?_
    (conv => whnf)
    refine convI (kd := .i64) (m := (sumB l : Nat)) (by kernel_rfl) Tryz.underlying3 (by rw [IntKind.wrap_i64]; unfold sumB at h2 ⊢; omega) ?_
    repeat' ((conv => whnf); first | refine RetC.mk ?_ | refine NzC.mk (by decide) ?_ | refine RngC.mk (by omega) (by omega) ?_ | refine IdxC.mk (by omega) (by omega) ?_ | refine brD (fun _ => ?_) (fun _ => ?_) | refine brND (fun _ => ?_) (fun _ => ?_) | refine brN (fun _ => ?_) (fun _ => ?_) | refine brI (fun _ => ?_) (fun _ => ?_))
    exact ⟨rfl, hS.ext⟩

def headB (n e l : Nat) : List UInt8 := numB n 4 ++ numB e 4 ++ numB l 4
def bodyB (n e l : Nat) : List UInt8 := headB n e l ++ numB (sumB (headB n e l)) 4
theorem headB_len (n e l : Nat) : (headB n e l).length = 12 := by simp [headB, numB_len]
theorem bodyB_len (n e l : Nat) : (bodyB n e l).length = 16 := by simp [bodyB, headB_len, numB_len]
theorem body_ok (n e l : Nat) (hn : n < 9223372036854775808) (he : e < 9223372036854775808) (hl : l < 9223372036854775808) (w : World) :
    CallC Tryz.prog 133 #[.int .i64 (n : Int), .int .i64 (e : Int), .int .i64 (l : Int)] w fun v w' => v = .string (bs (bodyB n e l)) ∧ Ext No w w' := by
  have hs := sumB_lt (headB n e l)
  refine fn_intro tabOk Tryz.func133 (by kernel_rfl) rfl Tryz.ntmps133 (Nat.le_of_ble_eq_true rfl) ?_
  have hS := St.start w No
  (conv => whnf)
  refine (number_ok n 4 (by omega) hn _).mono ?_
  rintro v w' ⟨rfl, hx⟩
  replace hS := hS.no hx
  (conv => whnf)
  refine (number_ok e 4 (by omega) he _).mono ?_
  rintro v w' ⟨rfl, hx⟩
  replace hS := hS.no hx
  (conv => whnf)
  refine addS (by simp [numB_len]) ?_
  (conv => whnf)
  refine (number_ok l 4 (by omega) hl _).mono ?_
  rintro v w' ⟨rfl, hx⟩
  replace hS := hS.no hx
  (conv => whnf)
  refine addS (by simp [numB_len]) ?_
  rw [show numB n 4 ++ numB e 4 ++ numB l 4 = headB n e l from rfl]
  (conv => whnf)
  refine (sum_ok (headB n e l) (by rw [headB_len]; omega) _).mono ?_
  rintro v w' ⟨rfl, hx⟩
  replace hS := hS.no hx
  (conv => whnf)
  refine (number_ok (sumB (headB n e l)) 4 (by omega) (by omega) _).mono ?_
  rintro v w' ⟨rfl, hx⟩
  replace hS := hS.no hx
  (conv => whnf)
  refine addS (by simp [numB_len, headB_len]) ?_
  repeat' ((conv => whnf); first | refine RetC.mk ?_ | refine NzC.mk (by decide) ?_ | refine RngC.mk (by omega) (by omega) ?_ | refine IdxC.mk (by omega) (by omega) ?_ | refine brD (fun _ => ?_) (fun _ => ?_) | refine brND (fun _ => ?_) (fun _ => ?_) | refine brN (fun _ => ?_) (fun _ => ?_) | refine brI (fun _ => ?_) (fun _ => ?_))
  exact ⟨rfl, hS.ext⟩
end Go.Proofs.YtoaghhcjlfiflaaGreatDoor

/-
  Package cell, walked: the bytes that a cell writes to.
-/
namespace Go.Proofs.YtoaghhcjlfiflaaGreatDoor
open Go Ev

structure BytS where
  data : List UInt8
  off : Bool
  left : Int
def encBy (B : BytS) : List Value := B.data.flatMap encU ++ [.bool B.off, .int .i64 B.left]
theorem by_len {B : BytS} (h : B.data.length = 64) : (encBy B).length = 66 := by
  simp only [encBy, List.length_append, flat_len codU, h, List.length_cons, List.length_nil]
theorem by_off {B : BytS} (h : B.data.length = 64) : (encBy B)[64]? = some (.bool B.off) := by
  unfold encBy
  rw [List.getElem?_append_right (by rw [flat_len codU]; omega), flat_len codU, h]
  rfl
theorem by_left {B : BytS} (h : B.data.length = 64) : (encBy B)[65]? = some (.int .i64 B.left) := by
  unfold encBy
  rw [List.getElem?_append_right (by rw [flat_len codU]; omega), flat_len codU, h]
  rfl
theorem by_at {B : BytS} {k : Nat} {x : UInt8} (h : B.data[k]? = some x) : (encBy B)[k]? = some (.int .u8 (x.toNat : Int)) := by
  have := flat_get codU (j := 0) h rfl
  have lt := (List.getElem?_eq_some_iff.1 h).1
  unfold encBy
  rw [List.getElem?_append_left (by rw [flat_len codU]; omega)]
  simpa using this
theorem by_set {B : BytS} {k : Nat} {x y : UInt8} (h : B.data[k]? = some y) : over (encBy B) k [.int .u8 (x.toNat : Int)] = encBy ⟨B.data.set k x, B.off, B.left⟩ := by
  have lt := (List.getElem?_eq_some_iff.1 h).1
  unfold encBy
  have := over_mid [] (B.data.flatMap encU) [.bool B.off, .int .i64 B.left] [.int .u8 (x.toNat : Int)] k (by rw [flat_len codU]; simp; omega)
  simp only [List.nil_append, List.length_nil, Nat.zero_add] at this
  have h2 := flat_over codU (j := 0) (y := x) (vs := [.int .u8 (x.toNat : Int)]) h (by simp) rfl
  rw [Nat.mul_one, Nat.add_zero] at h2
  rw [this, h2]
theorem by_setOff {B : BytS} {x : Bool} (h : B.data.length = 64) : over (encBy B) 64 [.bool x] = encBy ⟨B.data, x, B.left⟩ := by
  unfold encBy
  have := over_mid (B.data.flatMap encU) [.bool B.off, .int .i64 B.left] [] [.bool x] 0 (by simp)
  simp only [flat_len codU, h, List.append_nil, Nat.mul_one, Nat.add_zero] at this
  rw [this]
  rfl
theorem by_setLeft {B : BytS} {x : Int} (h : B.data.length = 64) : over (encBy B) 65 [.int .i64 x] = encBy ⟨B.data, B.off, x⟩ := by
  unfold encBy
  have := over_mid (B.data.flatMap encU) [.bool B.off, .int .i64 B.left] [] [.int .i64 x] 1 (by simp)
  simp only [flat_len codU, h, List.append_nil, Nat.mul_one] at this
  rw [this]
  rfl

/-- What is written while there is power. -/
def BytS.write (B : BytS) (p : Nat) : List UInt8 → Bool × BytS
  | [] => (true, B)
  | x :: r => if B.off = true ∨ B.left = 0 then (false, ⟨B.data, true, B.left⟩) else BytS.write ⟨B.data.set p x, B.off, if B.left - 1 > -1 then B.left - 1 else -1⟩ (p + 1) r
theorem write_cons (B : BytS) (p : Nat) (x : UInt8) (r : List UInt8) : B.write p (x :: r) = if B.off = true ∨ B.left = 0 then (false, ⟨B.data, true, B.left⟩) else BytS.write ⟨B.data.set p x, B.off, if B.left - 1 > -1 then B.left - 1 else -1⟩ (p + 1) r := rfl
theorem write_nil (B : BytS) (p : Nat) : B.write p [] = (true, B) := rfl
def by0 : BytS := ⟨List.replicate 64 0, false, -1⟩

section
variable {w : World} {b : Nat} {B : BytS}
theorem newBytes_ok (w : World) : CallC Tryz.prog 45 #[] w fun v w' => ∃ b, v = .pointer (some ⟨b, 0, none⟩) ∧ w.heap.size ≤ b ∧ Ext No w w' ∧ Blk w' b 143 (encBy by0) := by
  have hb : ∀ w, (Instr.build 143 #[(2, .int .i64 (-1))]).run Tryz.prog w = .ok (.agg (encBy by0).toArray) w := fun w => by kernel_rfl
  have hb2 : ∀ k : Value → Prop, k (.agg (encBy by0).toArray) → PureC Tryz.prog (Instr.build 143 #[(2, .int .i64 (-1))]) k := fun k hk => PureC.of hb hk
  have ho : cellsL (.agg (encBy by0).toArray) = encBy by0 := by simp [cellsL]
  generalize Value.agg (encBy by0).toArray = VV at hb2 ho
  refine fn_intro tabOk Tryz.func45 (by kernel_rfl) rfl Tryz.ntmps45 (Nat.le_of_ble_eq_true rfl) ?_
  have hS := St.start w No
  repeat' ((conv => whnf); first | refine RetC.mk ?_ | refine hb2 _ ?_)
  refine hS.new (fun b w' hb hS => ?_)
  rw [ho] at hS
  repeat' ((conv => whnf); first | refine RetC.mk ?_ | refine NzC.mk (by decide) ?_ | refine RngC.mk (by omega) (by omega) ?_ | refine IdxC.mk (by omega) (by omega) ?_ | refine brD (fun _ => ?_) (fun _ => ?_) | refine brND (fun _ => ?_) (fun _ => ?_) | refine brN (fun _ => ?_) (fun _ => ?_) | refine brI (fun _ => ?_) (fun _ => ?_))
  exact ⟨b, rfl, hb, hS.ext, hS.blk 0 rfl⟩
theorem bon_ok (hb : Blk w b 143 (encBy B)) (hl : B.data.length = 64) : CallC Tryz.prog 56 #[.pointer (some ⟨b, 0, none⟩)] w fun _ w' => Ext (· = b) w w' ∧ Blk w' b 143 (encBy ⟨B.data, false, -1⟩) := by
  refine fn_intro tabOk Tryz.func56 (by kernel_rfl) rfl Tryz.ntmps56 (Nat.le_of_ble_eq_true rfl) ?_
  have hS := (St.start w (· = b)).add (blk_local b _ _) hb (by simp [blk]; exact hb.lt) (by simp)
  (conv => whnf)
  refine hS.st 0 rfl (by rw [by_len hl]; simp [cellsL]) rfl (fun w' hS => ?_)
  replace hS : St w (· = b) w' [blk b 143 (encBy ⟨B.data, false, B.left⟩)] := by rw [← by_setOff hl]; exact hS
  (conv => whnf)
  refine hS.st 0 rfl (by rw [by_len (by exact hl)]; simp [cellsL]) rfl (fun w' hS => ?_)
  replace hS : St w (· = b) w' [blk b 143 (encBy ⟨B.data, false, -1⟩)] := by rw [← by_setLeft (B := ⟨B.data, false, B.left⟩) hl]; exact hS
  repeat' ((conv => whnf); first | refine RetC.mk ?_ | refine NzC.mk (by decide) ?_ | refine RngC.mk (by omega) (by omega) ?_ | refine IdxC.mk (by omega) (by omega) ?_ | refine brD (fun _ => ?_) (fun _ => ?_) | refine brND (fun _ => ?_) (fun _ => ?_) | refine brN (fun _ => ?_) (fun _ => ?_) | refine brI (fun _ => ?_) (fun _ => ?_))
  exact ⟨hS.ext, hS.blk 0 rfl⟩
theorem boff_ok (hb : Blk w b 143 (encBy B)) (hl : B.data.length = 64) : CallC Tryz.prog 55 #[.pointer (some ⟨b, 0, none⟩)] w fun _ w' => Ext (· = b) w w' ∧ Blk w' b 143 (encBy ⟨B.data, true, B.left⟩) := by
  refine fn_intro tabOk Tryz.func55 (by kernel_rfl) rfl Tryz.ntmps55 (Nat.le_of_ble_eq_true rfl) ?_
  have hS := (St.start w (· = b)).add (blk_local b _ _) hb (by simp [blk]; exact hb.lt) (by simp)
  (conv => whnf)
  refine hS.st 0 rfl (by rw [by_len hl]; simp [cellsL]) rfl (fun w' hS => ?_)
  replace hS : St w (· = b) w' [blk b 143 (encBy ⟨B.data, true, B.left⟩)] := by rw [← by_setOff hl]; exact hS
  repeat' ((conv => whnf); first | refine RetC.mk ?_ | refine NzC.mk (by decide) ?_ | refine RngC.mk (by omega) (by omega) ?_ | refine IdxC.mk (by omega) (by omega) ?_ | refine brD (fun _ => ?_) (fun _ => ?_) | refine brND (fun _ => ?_) (fun _ => ?_) | refine brN (fun _ => ?_) (fun _ => ?_) | refine brI (fun _ => ?_) (fun _ => ?_))
  exact ⟨hS.ext, hS.blk 0 rfl⟩
theorem bpower_ok (hb : Blk w b 143 (encBy B)) (hl : B.data.length = 64) : CallC Tryz.prog 58 #[.pointer (some ⟨b, 0, none⟩)] w fun v w' => v = .bool (!B.off) ∧ Ext No w w' := by
  refine fn_intro tabOk Tryz.func58 (by kernel_rfl) rfl Tryz.ntmps58 (Nat.le_of_ble_eq_true rfl) ?_
  have hS := St.start w No
  (conv => whnf)
  refine ldc (v := .bool B.off) (by rw [hb.cell]; exact by_off hl) ?_
  repeat' ((conv => whnf); first | refine RetC.mk ?_ | refine NzC.mk (by decide) ?_ | refine RngC.mk (by omega) (by omega) ?_ | refine IdxC.mk (by omega) (by omega) ?_ | refine brD (fun _ => ?_) (fun _ => ?_) | refine brND (fun _ => ?_) (fun _ => ?_) | refine brN (fun _ => ?_) (fun _ => ?_) | refine brI (fun _ => ?_) (fun _ => ?_))
  exact ⟨rfl, hS.ext⟩
theorem ball_ok (hb : Blk w b 143 (encBy B)) (hl : B.data.length = 64) : CallC Tryz.prog 131 #[.pointer (some ⟨b, 0, none⟩)] w fun v w' => v = .string (bs B.data) ∧ Ext No w w' := by
  have h0 : CellsAt w b 0 (B.data.flatMap encU) := fun j v hj => by
    have lt := (List.getElem?_eq_some_iff.1 hj).1
    rw [hb.cell]
    unfold encBy
    rw [Nat.zero_add, List.getElem?_append_left lt]
    exact hj
  refine fn_intro tabOk Tryz.func131 (by kernel_rfl) rfl Tryz.ntmps131 (Nat.le_of_ble_eq_true rfl) ?_
  have hS := St.start w No
  (conv => whnf)
  refine strC Tryz.underlying169 Tryz.underlying5 Tryz.underlying9 h0 hl ?_
  repeat' ((conv => whnf); first | refine RetC.mk ?_ | refine NzC.mk (by decide) ?_ | refine RngC.mk (by omega) (by omega) ?_ | refine IdxC.mk (by omega) (by omega) ?_ | refine brD (fun _ => ?_) (fun _ => ?_) | refine brND (fun _ => ?_) (fun _ => ?_) | refine brN (fun _ => ?_) (fun _ => ?_) | refine brI (fun _ => ?_) (fun _ => ?_))
  exact ⟨rfl, hS.ext⟩
theorem bcut_ok {E : Nat → Addr} {n : Nat} (k : Int) (hb : Blk w b 143 (encBy B)) (hl : B.data.length = 64) (hE : Errs w E n [2, 7]) (hq : n ≤ b) : CallC Tryz.prog 93 #[.pointer (some ⟨b, 0, none⟩), .int .i64 k] w fun v w' => v = errV E (if k < 0 then 2 else if B.off = true then 7 else 0) ∧ Ext (· = b) w w' ∧ Blk w' b 143 (encBy (if k < 0 ∨ B.off = true then B else ⟨B.data, B.off, k⟩)) := by
  refine fn_intro tabOk Tryz.func93 (by kernel_rfl) rfl Tryz.ntmps93 (Nat.le_of_ble_eq_true rfl) ?_
  have hS := (St.start w (· = b)).add (blk_local b _ _) hb (by simp [blk]; exact hb.lt) (by simp)
  (conv => whnf)
  refine brD (fun h1 => ?_) (fun h1 => ?_)
  · repeat' ((conv => whnf); first | refine RetC.mk ?_ | refine NzC.mk (by decide) ?_ | refine RngC.mk (by omega) (by omega) ?_ | refine IdxC.mk (by omega) (by omega) ?_ | refine hS.ldr (hE.at_ 2 rfl) (hE.ne 2 rfl hq) ?_ | refine hS.ldrF (hE.at_ 2 rfl) (hE.ne 2 rfl hq) id ?_ | refine brD (fun _ => ?_) (fun _ => ?_) | refine brND (fun _ => ?_) (fun _ => ?_) | refine brN (fun _ => ?_) (fun _ => ?_) | refine brI (fun _ => ?_) (fun _ => ?_))
    rw [if_pos h1, if_pos (.inl h1)]
    exact ⟨rfl, hS.ext, hS.blk 0 rfl⟩
  (conv => whnf)
  refine hS.ld 0 rfl (by_off hl) ?_
  rw [if_neg h1]
  cases ho : B.off
  · rw [if_neg (by simp), if_neg (by simp [h1])]
    (conv => whnf)
    refine hS.st 0 rfl (by rw [by_len hl]; simp [cellsL]) rfl (fun w' hS => ?_)
    replace hS : St w (· = b) w' [blk b 143 (encBy ⟨B.data, B.off, k⟩)] := by rw [← by_setLeft hl]; exact hS
    rw [ho] at hS
    repeat' ((conv => whnf); first | refine RetC.mk ?_ | refine NzC.mk (by decide) ?_ | refine RngC.mk (by omega) (by omega) ?_ | refine IdxC.mk (by omega) (by omega) ?_ | refine brD (fun _ => ?_) (fun _ => ?_) | refine brND (fun _ => ?_) (fun _ => ?_) | refine brN (fun _ => ?_) (fun _ => ?_) | refine brI (fun _ => ?_) (fun _ => ?_))
    exact ⟨rfl, hS.ext, hS.blk 0 rfl⟩
  · rw [if_pos rfl, if_pos (.inr rfl)]
    repeat' ((conv => whnf); first | refine RetC.mk ?_ | refine NzC.mk (by decide) ?_ | refine RngC.mk (by omega) (by omega) ?_ | refine IdxC.mk (by omega) (by omega) ?_ | refine hS.ldr (hE.at_ 7 rfl) (hE.ne 7 rfl hq) ?_ | refine hS.ldrF (hE.at_ 7 rfl) (hE.ne 7 rfl hq) id ?_ | refine brD (fun _ => ?_) (fun _ => ?_) | refine brND (fun _ => ?_) (fun _ => ?_) | refine brN (fun _ => ?_) (fun _ => ?_) | refine brI (fun _ => ?_) (fun _ => ?_))
    exact ⟨rfl, hS.ext, hS.blk 0 rfl⟩
theorem drop_at {α : Type} {s : List α} {i : Nat} {x : α} (h : s[i]? = some x) : s.drop i = x :: s.drop (i + 1) := by
  obtain ⟨lt, e⟩ := List.getElem?_eq_some_iff.1 h
  rw [List.drop_eq_getElem_cons lt, e]
theorem bwrite_ok {E : Nat → Addr} {n : Nat} (p : Nat) (s : List UInt8) (hp : p + s.length ≤ 64) (hb : Blk w b 143 (encBy B)) (hl : B.data.length = 64) (hf : -1 ≤ B.left ∧ B.left ≤ 9223372036854775807) (hE : Errs w E n [7]) (hq : n ≤ b) :
    CallC Tryz.prog 184 #[.pointer (some ⟨b, 0, none⟩), .int .i64 (p : Int), .string (bs s)] w fun v w' => v = errV E (if (B.write p s).1 = true then 0 else 7) ∧ Ext (· = b) w w' ∧ Blk w' b 143 (encBy (B.write p s).2) := by
  refine fn_intro tabOk Tryz.func184 (by kernel_rfl) rfl Tryz.ntmps184 (Nat.le_of_ble_eq_true rfl) ?_
  have hS := (St.start w (· = b)).add (blk_local b _ _) hb (by simp [blk]; exact hb.lt) (by simp)
  (conv => whnf)
  rw [bs_size]
  refine loopR tabOk (fun σ w' q => ∃ (i : Nat) (C : BytS), σ = [(10, .int .i64 i), (9, .int .i64 (s.length : Nat)), (2, .string (bs s)), (1, .int .i64 (p : Int)), (0, .pointer (some ⟨b, 0, none⟩))] ∧ q = s.length - i ∧ i ≤ s.length ∧ C.data.length = 64 ∧ (-1 ≤ C.left ∧ C.left ≤ 9223372036854775807) ∧ B.write p s = C.write (p + i) (s.drop i) ∧ St w (· = b) w' [blk b 143 (encBy C)])
    (σ' := [(10, .int .i64 ((0 : Nat) : Int)), (9, .int .i64 (s.length : Nat)), (2, .string (bs s)), (1, .int .i64 (p : Int)), (0, .pointer (some ⟨b, 0, none⟩))]) (n := s.length) ⟨rfl, rfl, rfl, rfl, rfl, trivial⟩ ⟨0, B, rfl, rfl, Nat.zero_le _, hl, hf, rfl, hS⟩ ?_
  clear hS
  rintro _ w1 q ⟨i, C, rfl, rfl, hi, hcl, hcf, hw, hS⟩
  (conv => whnf)
  refine brD (fun h3 => ?_) (fun h3 => ?_)
  · obtain ⟨x, hx⟩ : ∃ x, s[i]? = some x := ⟨_, List.getElem?_eq_getElem (by omega)⟩
    obtain ⟨y, hy⟩ : ∃ y, C.data[p + i]? = some y := ⟨_, List.getElem?_eq_getElem (by omega)⟩
    rw [drop_at hx, write_cons] at hw
    (conv => whnf)
    refine hS.ld 0 rfl (by_off hcl) ?_
    have fail : C.off = true ∨ C.left = 0 → ∀ w', St w (· = b) w' [blk b 143 (encBy ⟨C.data, true, C.left⟩)] → (errV E 7 = errV E (if (B.write p s).1 = true then 0 else 7) ∧ Ext (· = b) w w' ∧ Blk w' b 143 (encBy (B.write p s).2)) := by
      intro h w' hS
      rw [if_pos h] at hw
      rw [hw]
      exact ⟨rfl, hS.ext, hS.blk 0 rfl⟩
    cases hco : C.off
    · (conv => whnf)
      refine hS.ld 0 rfl (by_left hcl) ?_
      (conv => whnf)
      refine brD (fun h4 => ?_) (fun h4 => ?_)
      · (conv => whnf)
        refine hS.st 0 rfl (by rw [by_len hcl]; simp [cellsL]) rfl (fun w' hS => ?_)
        replace hS : St w (· = b) w' [blk b 143 (encBy ⟨C.data, true, C.left⟩)] := by rw [← by_setOff hcl]; exact hS
        repeat' ((conv => whnf); first | refine RetC.mk ?_ | refine NzC.mk (by decide) ?_ | refine RngC.mk (by omega) (by omega) ?_ | refine IdxC.mk (by omega) (by omega) ?_ | refine hS.ldr (hE.at_ 7 rfl) (hE.ne 7 rfl hq) ?_ | refine hS.ldrF (hE.at_ 7 rfl) (hE.ne 7 rfl hq) id ?_ | refine brD (fun _ => ?_) (fun _ => ?_) | refine brND (fun _ => ?_) (fun _ => ?_) | refine brN (fun _ => ?_) (fun _ => ?_) | refine brI (fun _ => ?_) (fun _ => ?_))
        exact fail (.inr h4) _ hS
      · rw [if_neg (by simp [hco, h4])] at hw
        (conv => whnf)
        (refine drawS tabOk mixed [] ((· = b)) [0, 1, 2, 3, 4, 5, 6, 7, 8, 9, 10] (by kernel_rfl) ?_; rintro w1 rfl; replace hS := hS.drew)
        (conv => whnf)
        refine RngC.mk (by omega) (by omega) ?_
        (conv => whnf)
        refine idxS Tryz.underlying9 rfl hx ?_
        (conv => whnf)
        refine IdxC.mk (by omega) (by omega) ?_
        (conv => whnf)
        refine hS.stX 0 rfl (by rw [by_len hcl]; simp [cellsL]; omega) rfl (fun w' hx' hS => ?_)
        refine KeepC.mk hx' ?_
        have ho : over (encBy C) (0 + 0 + ((p : Int) + (i : Int)).toNat * 1) (cellsL (.int .u8 (x.toNat : Int))) = encBy ⟨C.data.set (p + i) x, C.off, C.left⟩ := by
          rw [show 0 + 0 + ((p : Int) + (i : Int)).toNat * 1 = p + i by omega]
          exact by_set hy
        have hcl2 : (C.data.set (p + i) x).length = 64 := by rw [List.length_set]; exact hcl
        replace hS : St w (· = b) w' [blk b 143 (encBy ⟨C.data.set (p + i) x, C.off, C.left⟩)] := by rw [← ho]; exact hS
        (conv => whnf)
        refine hS.ld 0 rfl (by_left (by exact hcl2)) ?_
        (conv => whnf)
        refine RngC.mk (by dsimp only; omega) (by dsimp only; omega) ?_
        (conv => whnf)
        refine hS.st 0 rfl (by rw [by_len (by exact hcl2)]; simp [cellsL]) rfl (fun w' hS => ?_)
        replace hS : St w (· = b) w' [blk b 143 (encBy ⟨C.data.set (p + i) x, C.off, if C.left - 1 > -1 then C.left - 1 else -1⟩)] := by
          rw [← by_setLeft (B := ⟨C.data.set (p + i) x, C.off, C.left⟩) hcl2]
          exact hS
        (conv => whnf)
        refine RngC.mk (by omega) (by omega) ?_
        (conv => whnf)
        refine LoopE.mk ⟨_, [(10, .int .i64 ((i + 1 : Nat) : Int)), (9, _), (2, _), (1, _), (0, _)], ?_, ⟨rfl, rfl, rfl, rfl, rfl, trivial⟩, ⟨i + 1, ⟨C.data.set (p + i) x, C.off, if C.left - 1 > -1 then C.left - 1 else -1⟩, rfl, rfl, by omega, hcl2, by dsimp only; split <;> omega, hw, hS⟩⟩
        omega
    · (conv => whnf)
      refine hS.st 0 rfl (by rw [by_len hcl]; simp [cellsL]) rfl (fun w' hS => ?_)
      replace hS : St w (· = b) w' [blk b 143 (encBy ⟨C.data, true, C.left⟩)] := by rw [← by_setOff hcl]; exact hS
      repeat' ((conv => whnf); first | refine RetC.mk ?_ | refine NzC.mk (by decide) ?_ | refine RngC.mk (by omega) (by omega) ?_ | refine IdxC.mk (by omega) (by omega) ?_ | refine hS.ldr (hE.at_ 7 rfl) (hE.ne 7 rfl hq) ?_ | refine hS.ldrF (hE.at_ 7 rfl) (hE.ne 7 rfl hq) id ?_ | refine brD (fun _ => ?_) (fun _ => ?_) | refine brND (fun _ => ?_) (fun _ => ?_) | refine brN (fun _ => ?_) (fun _ => ?_) | refine brI (fun _ => ?_) (fun _ => ?_))
      exact fail (.inl hco) _ hS
  · obtain rfl : i = s.length := by omega
    rw [List.drop_length, write_nil] at hw
    rw [hw]
    repeat' ((conv => whnf); first | refine RetC.mk ?_ | refine NzC.mk (by decide) ?_ | refine RngC.mk (by omega) (by omega) ?_ | refine IdxC.mk (by omega) (by omega) ?_ | refine brD (fun _ => ?_) (fun _ => ?_) | refine brND (fun _ => ?_) (fun _ => ?_) | refine brN (fun _ => ?_) (fun _ => ?_) | refine brI (fun _ => ?_) (fun _ => ?_))
    exact ⟨rfl, hS.ext, hS.blk 0 rfl⟩
end
end Go.Proofs.YtoaghhcjlfiflaaGreatDoor

/-
  Package cell, walked: a cell is written, put, opened.
-/
namespace Go.Proofs.YtoaghhcjlfiflaaGreatDoor
open Go Ev

structure BOk (B : BytS) : Prop where
  len : B.data.length = 64
  lo : -1 ≤ B.left
  hi : B.left ≤ 9223372036854775807
theorem BOk.write : ∀ (s : List UInt8) {B : BytS} (p : Nat), BOk B → BOk (B.write p s).2
  | [], _, _, h => h
  | x :: r, B, p, h => by
    rw [write_cons]
    split
    · exact ⟨h.len, h.lo, h.hi⟩
    · refine BOk.write r (p + 1) ⟨by rw [List.length_set]; exact h.len, ?_, ?_⟩
      all_goals have := h.lo
      all_goals have := h.hi
      all_goals dsimp only
      all_goals split <;> omega

def mark (B : BytS) (p : Nat) : Bool × BytS := match B.data[p]? with
  | some x => if x = 0 then (true, B) else B.write p [0]
  | none => (true, B)
def cwrite (B : BytS) (n e l : Nat) : Bool × BytS :=
  if B.off = true then (false, B) else
  if (mark B (n % 2 * 20 + 16)).1 = true then
    if ((mark B (n % 2 * 20 + 16)).2.write (n % 2 * 20) (bodyB n e l)).1 = true then ((mark B (n % 2 * 20 + 16)).2.write (n % 2 * 20) (bodyB n e l)).2.write (n % 2 * 20 + 16) [165]
    else (false, ((mark B (n % 2 * 20 + 16)).2.write (n % 2 * 20) (bodyB n e l)).2)
  else (false, (mark B (n % 2 * 20 + 16)).2)
theorem BOk.mark {B : BytS} (p : Nat) (h : BOk B) : BOk (mark B p).2 := by
  unfold Proofs.YtoaghhcjlfiflaaGreatDoor.mark
  split
  · split
    · exact h
    · exact h.write _ _
  · exact h
theorem BOk.cwrite {B : BytS} (n e l : Nat) (h : BOk B) : BOk (cwrite B n e l).2 := by
  unfold Proofs.YtoaghhcjlfiflaaGreatDoor.cwrite
  split
  · exact h
  · split
    · split
      · exact BOk.write _ _ (BOk.write _ _ (h.mark _))
      · exact BOk.write _ _ (h.mark _)
    · exact h.mark _

structure CelS where
  num : Nat
  ep : Nat
  li : Nat
  dead : Bool
deriving DecidableEq
def encCl (b : Nat) (C : CelS) : List Value := [.pointer (some ⟨b, 0, none⟩), .int .i64 (C.num : Int), .int .i64 (C.ep : Int), .int .i64 (C.li : Int), .bool C.dead]

section
variable {w : World} {b c : Nat} {B : BytS} {C : CelS}
theorem cepoch_ok (hC : Blk w c 199 (encCl b C)) : CallC Tryz.prog 88 #[.pointer (some ⟨c, 0, none⟩)] w fun v w' => v = .int .i64 (C.ep : Int) ∧ Ext No w w' := by
  refine fn_intro tabOk Tryz.func88 (by kernel_rfl) rfl Tryz.ntmps88 (Nat.le_of_ble_eq_true rfl) ?_
  have hS := St.start w No
  (conv => whnf)
  refine ldc (hC.cell 2) ?_
  repeat' ((conv => whnf); first | refine RetC.mk ?_ | refine NzC.mk (by decide) ?_ | refine RngC.mk (by omega) (by omega) ?_ | refine IdxC.mk (by omega) (by omega) ?_ | refine brD (fun _ => ?_) (fun _ => ?_) | refine brND (fun _ => ?_) (fun _ => ?_) | refine brN (fun _ => ?_) (fun _ => ?_) | refine brI (fun _ => ?_) (fun _ => ?_))
  exact ⟨rfl, hS.ext⟩
theorem clife_ok (hC : Blk w c 199 (encCl b C)) : CallC Tryz.prog 89 #[.pointer (some ⟨c, 0, none⟩)] w fun v w' => v = .int .i64 (C.li : Int) ∧ Ext No w w' := by
  refine fn_intro tabOk Tryz.func89 (by kernel_rfl) rfl Tryz.ntmps89 (Nat.le_of_ble_eq_true rfl) ?_
  have hS := St.start w No
  (conv => whnf)
  refine ldc (hC.cell 3) ?_
  repeat' ((conv => whnf); first | refine RetC.mk ?_ | refine NzC.mk (by decide) ?_ | refine RngC.mk (by omega) (by omega) ?_ | refine IdxC.mk (by omega) (by omega) ?_ | refine brD (fun _ => ?_) (fun _ => ?_) | refine brND (fun _ => ?_) (fun _ => ?_) | refine brN (fun _ => ?_) (fun _ => ?_) | refine brI (fun _ => ?_) (fun _ => ?_))
  exact ⟨rfl, hS.ext⟩

theorem cwrite_ok {E : Nat → Addr} {q : Nat} (n e l : Nat) (hn : n < 9223372036854775808) (he : e < 9223372036854775808) (hl : l < 9223372036854775808) (hC : Blk w c 199 (encCl b C)) (hB : Blk w b 143 (encBy B)) (hO : BOk B) (hE : Errs w E q [7]) (hq : q ≤ b) :
    CallC Tryz.prog 134 #[.pointer (some ⟨c, 0, none⟩), .int .i64 (n : Int), .int .i64 (e : Int), .int .i64 (l : Int)] w fun v w' => v = errV E (if (cwrite B n e l).1 = true then 0 else 7) ∧ Ext (· = b) w w' ∧ Blk w' b 143 (encBy (cwrite B n e l).2) := by
  have hcb : ¬ c = b := Blk.ne hC hB (by decide)
  have hmod : (n : Int).tmod 2 = ((n % 2 : Nat) : Int) := by rw [Int.tmod_eq_emod_of_nonneg (by omega)]; omega
  have hn2 : n % 2 < 2 := Nat.mod_lt _ (by omega)
  have hbl := bodyB_len n e l
  unfold cwrite
  refine fn_intro tabOk Tryz.func134 (by kernel_rfl) rfl Tryz.ntmps134 (Nat.le_of_ble_eq_true rfl) ?_
  have hb := hB
  have hS := (St.start w (· = b)).add (blk_local b _ _) hb (by simp [blk]; exact hb.lt) (by simp)
  have h20 : (n : Int).tmod 2 * 20 = ((n % 2 * 20 : Nat) : Int) := by rw [hmod]; omega
  have h36 : n % 2 * 20 ≤ 20 := by omega
  generalize n % 2 * 20 = p at h20 h36
  repeat' ((conv => whnf); first | refine RetC.mk ?_ | refine NzC.mk (by decide) ?_ | refine RngC.mk (by omega) (by omega) ?_ | refine IdxC.mk (by omega) (by omega) ?_ | refine RngC.mk (by omega) (by omega) ?_ | refine brD (fun _ => ?_) (fun _ => ?_) | refine brND (fun _ => ?_) (fun _ => ?_) | refine brN (fun _ => ?_) (fun _ => ?_) | refine brI (fun _ => ?_) (fun _ => ?_))
  rw [h20]
  (conv => whnf)
  refine hS.ldr (hC.cell 0) hcb ?_
  (conv => whnf)
  refine hS.ld 0 rfl (by_off hO.len) ?_
  cases hoff : B.off
  · rw [if_neg Bool.false_ne_true]
    (conv => whnf)
    refine hS.ldr (hC.cell 0) hcb ?_
    (conv => whnf)
    refine RngC.mk (by omega) (by omega) ?_
    (conv => whnf)
    refine IdxC.mk (by omega) (by omega) ?_
    obtain ⟨x, hx⟩ : ∃ x, B.data[p + 16]? = some x := ⟨_, List.getElem?_eq_getElem (by have := hO.len; omega)⟩
    have hmk : mark B (p + 16) = if x = 0 then (true, B) else B.write (p + 16) [0] := by unfold mark; rw [hx]
    (conv => whnf)
    refine hS.ld 0 rfl (o := 0 + 0 + ((p : Int) + 16).toNat * 1) (by rw [show 0 + 0 + ((p : Int) + 16).toNat * 1 = p + 16 by omega]; exact by_at hx) ?_
    (conv => whnf)
    refine neC ?_
    (conv => whnf)
    refine brND (fun h1 => ?_) (fun h1 => ?_)
    · rw [if_neg (by rintro rfl; exact h1 rfl)] at hmk
      rw [hmk]
      have hO1 := hO.write [0] (p + 16)
      (conv => whnf)
      refine hS.ldr (hC.cell 0) hcb ?_
      (conv => whnf)
      refine RngC.mk (by omega) (by omega) ?_
      (conv => whnf)
      refine (bwrite_ok (p + 16) [0] (by simp; omega) (hS.blk 0 rfl) hO.len ⟨hO.lo, hO.hi⟩ (hE.ext hS.ext fun k hk => by subst hk; exact hq) hq).mono ?_
      rintro v w' ⟨rfl, hx', hB⟩
      replace hS := hS.upd 0 rfl hx' (fun c hc => by subst hc; exact List.mem_singleton.2 rfl) (blk_local _ _ _) hB (fun c hc => .inl hc)
      clear hx' hB
      generalize B.write (p + 16) [0] = R at hS hO1
      obtain ⟨ok, B1⟩ := R
      cases ok
      · repeat' ((conv => whnf); first | refine RetC.mk ?_ | refine NzC.mk (by decide) ?_ | refine RngC.mk (by omega) (by omega) ?_ | refine IdxC.mk (by omega) (by omega) ?_ | refine brD (fun _ => ?_) (fun _ => ?_) | refine brND (fun _ => ?_) (fun _ => ?_) | refine brN (fun _ => ?_) (fun _ => ?_) | refine brI (fun _ => ?_) (fun _ => ?_))
        exact ⟨rfl, hS.ext, hS.blk 0 rfl⟩
      · rw [if_pos rfl]
        (conv => whnf)
        have hO2 := BOk.write (bodyB n e l) p hO1
        (refine drawS tabOk mixed [] ((· = b)) [0, 1, 2, 3, 4, 5, 6, 7, 8, 9, 10] (by kernel_rfl) ?_; rintro w1 rfl; replace hS := hS.drew)
        repeat' ((conv => whnf); first | refine RetC.mk ?_ | refine NzC.mk (by decide) ?_ | refine RngC.mk (by omega) (by omega) ?_ | refine IdxC.mk (by omega) (by omega) ?_ | refine hS.ldrF (hC.cell 0) hcb hcb ?_ | refine brD (fun _ => ?_) (fun _ => ?_) | refine brND (fun _ => ?_) (fun _ => ?_) | refine brN (fun _ => ?_) (fun _ => ?_) | refine brI (fun _ => ?_) (fun _ => ?_))
        refine (body_ok n e l hn he hl _).mono ?_
        rintro v w2 ⟨rfl, hx1⟩
        replace hS := hS.no hx1
        refine KeepC.mk hx1.of_no ?_
        (conv => whnf)
        refine (bwrite_ok p (bodyB n e l) (by omega) (hS.blk 0 rfl) hO1.len ⟨hO1.lo, hO1.hi⟩ (hE.ext hS.ext fun k hk => by subst hk; exact hq) hq).mono ?_
        rintro v w' ⟨rfl, hx', hB⟩
        replace hS := hS.upd 0 rfl hx' (fun c hc => by subst hc; exact List.mem_singleton.2 rfl) (blk_local _ _ _) hB (fun c hc => .inl hc)
        refine KeepC.mk (hx1.of_no.trans hx') ?_
        clear hx' hB hx1
        generalize BytS.write B1 p (bodyB n e l) = R at hS hO2 ⊢
        obtain ⟨ok, B2⟩ := R
        cases ok
        · repeat' ((conv => whnf); first | refine RetC.mk ?_ | refine NzC.mk (by decide) ?_ | refine RngC.mk (by omega) (by omega) ?_ | refine IdxC.mk (by omega) (by omega) ?_ | refine brD (fun _ => ?_) (fun _ => ?_) | refine brND (fun _ => ?_) (fun _ => ?_) | refine brN (fun _ => ?_) (fun _ => ?_) | refine brI (fun _ => ?_) (fun _ => ?_))
          exact ⟨rfl, hS.ext, hS.blk 0 rfl⟩
        · rw [if_pos rfl]
          (conv => whnf)
          refine hS.ldr (hC.cell 0) hcb ?_
          (conv => whnf)
          refine RngC.mk (by omega) (by omega) ?_
          (conv => whnf)
          refine (bwrite_ok (p + 16) [165] (by simp; omega) (hS.blk 0 rfl) hO2.len ⟨hO2.lo, hO2.hi⟩ (hE.ext hS.ext fun k hk => by subst hk; exact hq) hq).mono ?_
          rintro v w' ⟨rfl, hx', hB⟩
          replace hS := hS.upd 0 rfl hx' (fun c hc => by subst hc; exact List.mem_singleton.2 rfl) (blk_local _ _ _) hB (fun c hc => .inl hc)
          clear hx' hB
          repeat' ((conv => whnf); first | refine RetC.mk ?_ | refine NzC.mk (by decide) ?_ | refine RngC.mk (by omega) (by omega) ?_ | refine IdxC.mk (by omega) (by omega) ?_ | refine brD (fun _ => ?_) (fun _ => ?_) | refine brND (fun _ => ?_) (fun _ => ?_) | refine brN (fun _ => ?_) (fun _ => ?_) | refine brI (fun _ => ?_) (fun _ => ?_))
          exact ⟨rfl, hS.ext, hS.blk 0 rfl⟩
    · rw [if_pos (by
        have h2 : x.toNat = 0 := by omega
        exact UInt8.toNat_inj.1 h2)] at hmk
      rw [hmk, if_pos rfl]
      (conv => whnf)
      have hO2 := BOk.write (bodyB n e l) p hO
      (refine drawS tabOk mixed [] ((· = b)) [0, 1, 2, 3, 4, 5, 6, 7, 8, 9, 10] (by kernel_rfl) ?_; rintro w1 rfl; replace hS := hS.drew)
      repeat' ((conv => whnf); first | refine RetC.mk ?_ | refine NzC.mk (by decide) ?_ | refine RngC.mk (by omega) (by omega) ?_ | refine IdxC.mk (by omega) (by omega) ?_ | refine hS.ldrF (hC.cell 0) hcb hcb ?_ | refine brD (fun _ => ?_) (fun _ => ?_) | refine brND (fun _ => ?_) (fun _ => ?_) | refine brN (fun _ => ?_) (fun _ => ?_) | refine brI (fun _ => ?_) (fun _ => ?_))
      refine (body_ok n e l hn he hl _).mono ?_
      rintro v w2 ⟨rfl, hx1⟩
      replace hS := hS.no hx1
      refine KeepC.mk hx1.of_no ?_
      (conv => whnf)
      refine (bwrite_ok p (bodyB n e l) (by omega) (hS.blk 0 rfl) hO.len ⟨hO.lo, hO.hi⟩ (hE.ext hS.ext fun k hk => by subst hk; exact hq) hq).mono ?_
      rintro v w' ⟨rfl, hx', hB⟩
      replace hS := hS.upd 0 rfl hx' (fun c hc => by subst hc; exact List.mem_singleton.2 rfl) (blk_local _ _ _) hB (fun c hc => .inl hc)
      refine KeepC.mk (hx1.of_no.trans hx') ?_
      clear hx' hB hx1
      generalize BytS.write B p (bodyB n e l) = R at hS hO2 ⊢
      obtain ⟨ok, B2⟩ := R
      cases ok
      · repeat' ((conv => whnf); first | refine RetC.mk ?_ | refine NzC.mk (by decide) ?_ | refine RngC.mk (by omega) (by omega) ?_ | refine IdxC.mk (by omega) (by omega) ?_ | refine brD (fun _ => ?_) (fun _ => ?_) | refine brND (fun _ => ?_) (fun _ => ?_) | refine brN (fun _ => ?_) (fun _ => ?_) | refine brI (fun _ => ?_) (fun _ => ?_))
        exact ⟨rfl, hS.ext, hS.blk 0 rfl⟩
      · rw [if_pos rfl]
        (conv => whnf)
        refine hS.ldr (hC.cell 0) hcb ?_
        (conv => whnf)
        refine RngC.mk (by omega) (by omega) ?_
        (conv => whnf)
        refine (bwrite_ok (p + 16) [165] (by simp; omega) (hS.blk 0 rfl) hO2.len ⟨hO2.lo, hO2.hi⟩ (hE.ext hS.ext fun k hk => by subst hk; exact hq) hq).mono ?_
        rintro v w' ⟨rfl, hx', hB⟩
        replace hS := hS.upd 0 rfl hx' (fun c hc => by subst hc; exact List.mem_singleton.2 rfl) (blk_local _ _ _) hB (fun c hc => .inl hc)
        clear hx' hB
        repeat' ((conv => whnf); first | refine RetC.mk ?_ | refine NzC.mk (by decide) ?_ | refine RngC.mk (by omega) (by omega) ?_ | refine IdxC.mk (by omega) (by omega) ?_ | refine brD (fun _ => ?_) (fun _ => ?_) | refine brND (fun _ => ?_) (fun _ => ?_) | refine brN (fun _ => ?_) (fun _ => ?_) | refine brI (fun _ => ?_) (fun _ => ?_))
        exact ⟨rfl, hS.ext, hS.blk 0 rfl⟩
  · rw [if_pos rfl]
    repeat' ((conv => whnf); first | refine RetC.mk ?_ | refine NzC.mk (by decide) ?_ | refine RngC.mk (by omega) (by omega) ?_ | refine IdxC.mk (by omega) (by omega) ?_ | refine hS.ldr (hE.at_ 7 rfl) (hE.ne 7 rfl hq) ?_ | refine hS.ldrF (hE.at_ 7 rfl) (hE.ne 7 rfl hq) id ?_ | refine brD (fun _ => ?_) (fun _ => ?_) | refine brND (fun _ => ?_) (fun _ => ?_) | refine brN (fun _ => ?_) (fun _ => ?_) | refine brI (fun _ => ?_) (fun _ => ?_))
    exact ⟨rfl, hS.ext, hS.blk 0 rfl⟩
end
end Go.Proofs.YtoaghhcjlfiflaaGreatDoor
