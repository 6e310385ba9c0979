
/-
  Package teller, walked: New, the closure of Next.
-/
import Derived.Test.YteakdmngllfodaaDoorTellS
import Derived.Test.YteakdmngllfodaaDoorRefTable
import Derived.Laws.Tables
namespace Go.Proofs.YteakdmngllfodaaDoor
open Go Ev Go.Instr

/-! ### A map of numbers that are there -/
def bEnt (k : Nat × Nat) : MapEntry := ⟨.int .i64 (k.1 : Int), .bool true, k.2⟩
def bFind (p : Nat) : List (Nat × Nat) → Nat → Option (Nat × Value)
  | [], _ => none
  | (a, _) :: r, n => if p = a then some (n, .bool true) else bFind p r (n + 1)
theorem bFind_no {p : Nat} : ∀ {l : List (Nat × Nat)} {n : Nat}, p ∉ l.map Prod.fst → bFind p l n = none
  | [], _, _ => rfl
  | (a, _) :: r, n, h => by
    simp only [List.map_cons, List.mem_cons, not_or] at h
    unfold bFind
    rw [if_neg h.1]
    exact bFind_no h.2
theorem bFind_yes {p : Nat} : ∀ {l : List (Nat × Nat)} {n : Nat}, p ∈ l.map Prod.fst → ∃ i, bFind p l n = some (i, .bool true)
  | [], _, h => by simp at h
  | (a, _) :: r, n, h => by
    unfold bFind
    by_cases hp : p = a
    · exact ⟨n, if_pos hp⟩
    · rw [if_neg hp]
      refine bFind_yes ?_
      simpa [hp] using h
theorem findNow_b (p : Nat) : ∀ (l : List (Nat × Nat)) (n : Nat), findNow (.int .i64) (.int .i64 (p : Int)) (l.map bEnt) n = some (bFind p l n)
  | [], _ => rfl
  | (a, c) :: r, n => by
    have ih := findNow_b p r (n + 1)
    rw [List.map_cons]
    unfold findNow bFind
    by_cases hp : p = a
    · subst hp
      simp [sameNow, bEnt]
    · have : ¬ (p : Int) = (a : Int) := by omega
      have h2 : sameNow (.int .i64) (.int .i64 (p : Int)) (bEnt (a, c)).key = some false := by
        simp [sameNow, bEnt, this]
      rw [h2, if_neg hp]
      exact ih
theorem findKey_b (p : Nat) (w : World) (l : List (Nat × Nat)) : (findKey 3 (.int .i64 (p : Int)) (l.map bEnt)).run Tryd.prog w = .ok (bFind p l 0) w := by
  have hu := Tryd.underlying3
  have h0 : (findKey 3 (.int .i64 (p : Int)) (l.map bEnt)) = (do match findNow (← underlying 3) (.int .i64 (p : Int)) (l.map bEnt) 0 with | some r => pure r | none => findAsking 3 (.int .i64 (p : Int)) (l.map bEnt)) := rfl
  rw [h0, Sem.run_bind, run_underlying hu, Result.andThen_ok, findNow_b]
  rfl
theorem ckInt (e : Bool) (a : Int) (w : World) : (checkKey e 10000 3 (.int .i64 a)).run Tryd.prog w = .ok () w := by cases e <;> kernel_rfl
def mapB (r : Nat) (ks : List Nat) : Ent := ⟨[r], fun w => ∃ (l : List (Nat × Nat)) (c : Nat), l.map Prod.fst = ks ∧ w.heap[r]? = some (.map (l.map bEnt).toArray c)⟩
theorem mapB_local (r : Nat) (ks : List Nat) : (mapB r ks).Local := fun w w' h hb => by
  have := h r (by simp [mapB])
  simpa [mapB, this] using hb
theorem bLook {w : World} {r : Nat} {ks : List Nat} (p : Nat) (h : (mapB r ks).holds w) : (Instr.lookup 110 (.map (some r)) (.int .i64 (p : Int)) false).run Tryd.prog w = .ok (.bool (decide (p ∈ ks))) w := by
  obtain ⟨l, c, rfl, hb⟩ := h
  have hm := Tryd.underlying110
  have hg : (getObj r).run Tryd.prog w = .ok (.map (l.map bEnt).toArray c) w := by simp [getObj, Sem.run, hb]
  have hz : (zeroValue 4).run Tryd.prog w = .ok (.bool false) w := by kernel_rfl
  have hk := findKey_b p w l
  simp only [Instr.lookup, Sem.run_bind, run_underlying hm, Result.andThen_ok, hg, Sem.run_pure, ckInt, hk]
  by_cases hp : p ∈ l.map Prod.fst
  · obtain ⟨i, h1⟩ := bFind_yes (n := 0) hp
    rw [decide_eq_true hp]
    simp [h1]
  · rw [decide_eq_false hp]
    simp [bFind_no hp, hz]
theorem Ev.St.lookB {w0 w : World} {S : Nat → Prop} {H : List Ent} (h : St w0 S w H) (i : Nat) {r : Nat} {ks : List Nat} {p : Nat} {k : Value → World → Prop} (hi : H[i]? = some (mapB r ks)) (hk : k (.bool (decide (p ∈ ks))) w) :
    RunC Tryd.prog (Instr.lookup 110 (.map (some r)) (.int .i64 (p : Int)) false) w k := ⟨_, _, bLook p (h.get i hi), hk⟩
theorem Ev.St.mkMapB {w0 w : World} {S : Nat → Prop} {H : List Ent} {k : Value → World → Prop} (h : St w0 S w H) (hk : ∀ r w', w0.heap.size ≤ r → St w0 S w' (H ++ [mapB r []]) → k (.map (some r)) w') : RunC Tryd.prog (Instr.makeMap 110 none) w k := by
  refine ⟨.map (some w.heap.size), { w with heap := w.heap.push (.map #[] 0) }, rfl, hk _ _ h.ext.size (h.made ⟨rfl, rfl, rfl, by simp, fun i hi _ => ?_⟩ (mapB_local _ _) ?_ ?_)⟩
  · show (w.heap.push _)[i]? = _
    rw [Array.getElem?_push, if_neg (by omega)]
  · refine ⟨[], 0, rfl, ?_⟩
    show (w.heap.push _)[w.heap.size]? = _
    rw [Array.getElem?_push, if_pos rfl]
    rfl
  · intro b hb
    obtain rfl : b = w.heap.size := by simpa [mapB] using hb
    simp
theorem Ev.St.insB {w0 w : World} {S : Nat → Prop} {H : List Ent} (h : St w0 S w H) (i : Nat) {r : Nat} {ks : List Nat} {p : Nat} {k : World → Prop} (hi : H[i]? = some (mapB r ks)) (hn : p ∉ ks)
    (hk : ∀ w', St w0 S w' (H.set i (mapB r (ks ++ [p]))) → k w') : RunU Tryd.prog (Instr.mapUpdate 110 (.map (some r)) (.int .i64 (p : Int)) (.bool true)) w k := by
  obtain ⟨l, c, rfl, hb⟩ := h.get i hi
  have hm := Tryd.underlying110
  have hg : (getObj r).run Tryd.prog w = .ok (.map (l.map bEnt).toArray c) w := by simp [getObj, Sem.run, hb]
  have hkk := findKey_b p w l
  rw [bFind_no hn] at hkk
  have hrun : (Instr.mapUpdate 110 (.map (some r)) (.int .i64 (p : Int)) (.bool true)).run Tryd.prog w = .ok () { w with heap := w.heap.setIfInBounds r (.map ((l ++ [(p, c)]).map bEnt).toArray (c + 1)) } := by
    simp only [Instr.mapUpdate, Sem.run_bind, run_underlying hm, Result.andThen_ok, hg, ckInt, hkk]
    simp [setObj, Sem.run, hb, bEnt]
  have hx : Ext (· = r) w { w with heap := w.heap.setIfInBounds r (.map ((l ++ [(p, c)]).map bEnt).toArray (c + 1)) } := ⟨rfl, rfl, rfl, by simp, fun j hj hs => by
    have : r ≠ j := fun e => hs e.symm
    simp [this]⟩
  refine ⟨_, hrun, hk _ (h.upd i hi hx (fun d hd => by simp [mapB, hd]) (mapB_local _ _) ⟨l ++ [(p, c)], c + 1, by simp, ?_⟩ fun d hd => .inl hd)⟩
  have := (Array.getElem?_eq_some_iff.1 hb).1
  show (w.heap.setIfInBounds r _)[r]? = _
  simp [this]

/-! ### Steps whose reach is known -/
theorem ownB_lt {α : Type} {w : World} {sz n : Nat} {e : TypeId} {v : Value} {enc : α → List Value} {xs : List α} (h : (ownL e sz enc v xs).holds w) (hg : v.ownBlock = some n) : n < w.heap.size := by
  obtain ⟨_, ⟨h1, _⟩ | ⟨g', cap, cur, h1, _, h2, _⟩⟩ := h
  · rw [h1] at hg; simp [Value.ownBlock] at hg
  · rw [h1] at hg
    simp only [Value.ownBlock, Option.some.injEq] at hg
    subst hg
    exact (Array.getElem?_eq_some_iff.1 h2).1
theorem Ev.St.appX {P : Program} {α : Type} {sz : Nat} {enc : α → List Value} {w0 w : World} {S : Nat → Prop} {H : List Ent} (h : St w0 S w H) (C : Codec sz enc) (i : Nat) {t e : TypeId} {bytes : Nat} {z v : Value} {a : Option Addr} {m c : Nat} {G : α → Prop} {xs ys : List α} {k : Value → World → Prop}
    (hu : P.underlying t = some (.slice e)) (hs : (P.info? e).map (fun i => (i.size, i.bytes)) = some (sz, bytes)) (hz : (P.info? e).bind (·.zero) = some z) (hzs : Nat.beq z.cells.size sz = true)
    (hi : H[i]? = some (ownL e sz enc v xs)) (hy : Slc w sz enc G a m ys) (h63 : xs.length + m ≤ maxLen) (hbytes : (xs.length + m) * bytes ≤ 140737488355328)
    (hk : ∀ a' c' w', Ext (fun q => v.ownBlock = some q) w w' → St w0 S w' (H.set i (ownL e sz enc (.slice a' (xs.length + m) c') (xs ++ ys))) → k (.slice a' (xs.length + m) c') w') :
    RunC P (Builtin.append_ #[t, t] 0 #[v, .slice a m c]) w k := by
  have ho := h.get i hi
  have hs1 : St w (fun q => v.ownBlock = some q) w [ownL e sz enc v xs] := (St.start w _).add ownL_local ho (fun q hq => by
    have hq : v.ownBlock = some q := by simpa [ownL, own] using hq
    exact ⟨.inl hq, ownB_lt ho hq⟩) (by simp)
  refine hs1.appS C 0 hu hs hz hzs rfl hy h63 hbytes (fun a' c' w' hS' => ?_)
  refine hk a' c' w' hS'.ext (h.upd i hi hS'.ext (fun q hq => by simp [ownL, own, hq]) ownL_local (hS'.get 0 rfl) fun q hq => ?_)
  have hm := hS'.may _ (List.mem_of_getElem? (i := 0) rfl) q (by simpa using hq)
  rcases hm with ⟨h1 | h1, h2⟩
  · exact .inl (by simp [ownL, own, h1])
  · exact .inr ⟨h1, h2⟩
theorem Ev.St.litX {P : Program} {w0 w : World} {S : Nat → Prop} {H : List Ent} (h : St w0 S w H) {t e : TypeId} {len sz : Nat} {z : Value} {parts : Array (Nat × Value)} {cs : List Value} {k : Value → World → Prop}
    (hu : P.underlying t = some (.slice e)) (hs : (P.info? e).map (·.size) = some sz) (hz : (P.info? e).bind (·.zero) = some z) (hsmall : Nat.ble (len * sz) (2 ^ 24) = true) (hpos : Nat.beq (len * sz) 0 = false)
    (hf : fillK sz (zerosL z (len * sz)) parts.toList = some cs)
    (hk : ∀ b w', w.heap.size ≤ b → Ext No w w' → St w0 S w' (H ++ [Ev.blk b e cs]) → k (.slice (some ⟨b, 0, none⟩) len len) w') : RunC P (Instr.buildSlice t len parts) w k := by
  refine (St.start w No).lit hu hs hz hsmall hpos hf (fun b w' hb hS => ?_)
  refine hk b w' hb hS.ext (h.made hS.ext (blk_local _ _ _) (hS.get 0 rfl) fun q hq => ?_)
  obtain rfl : q = b := by simpa [Ev.blk] using hq
  exact ⟨hb, (hS.blk 0 rfl).lt⟩

/-! ### A teller -/
def encTel (bT : Nat) (X : TelS) : List Value := .pointer (some ⟨bT, 0, none⟩) :: (X.told.flatMap encI ++ [.int .i64 (X.cursor : Int)])
theorem tel_len {bT : Nat} {X : TelS} (h : X.told.length = 32) : (encTel bT X).length = 34 := by
  simp only [encTel, List.length_cons, List.length_append, flat_len codInt, h, List.length_nil]
theorem tel_told {bT : Nat} {X : TelS} {k : Nat} {v : Int} (h : X.told[k]? = some v) : (encTel bT X)[1 + k]? = some (.int .i64 v) := by
  have := flat_get codInt (j := 0) h rfl
  have lt := (List.getElem?_eq_some_iff.1 h).1
  rw [Nat.add_comm 1]
  unfold encTel
  rw [List.getElem?_cons_succ, List.getElem?_append_left (by rw [flat_len codInt]; omega)]
  simpa using this
theorem tel_cur {bT : Nat} {X : TelS} (h : X.told.length = 32) : (encTel bT X)[33]? = some (.int .i64 (X.cursor : Int)) := by
  unfold encTel
  rw [List.getElem?_cons_succ, List.getElem?_append_right (by rw [flat_len codInt]; omega), flat_len codInt, h]
  rfl
theorem tel_set {bT : Nat} {X : TelS} {k o : Nat} {v u : Int} (h : X.told[k]? = some u) (ho : o = 1 + k) : over (encTel bT X) o [.int .i64 v] = encTel bT ⟨X.told.set k v, X.cursor⟩ := by
  subst ho
  have lt := (List.getElem?_eq_some_iff.1 h).1
  rw [Nat.add_comm 1]
  unfold encTel
  rw [over_cons]
  have := over_mid [] (X.told.flatMap encI) [.int .i64 (X.cursor : Int)] [.int .i64 v] k (by rw [flat_len codInt]; simp; omega)
  simp only [List.nil_append, List.length_nil, Nat.zero_add] at this
  have h2 := flat_over codInt (j := 0) (y := v) (vs := [.int .i64 v]) h (by simp) rfl
  rw [Nat.mul_one, Nat.add_zero] at h2
  rw [this, h2]
theorem tel_move {bT : Nat} {X : TelS} {c : Nat} {i : Int} (h : X.told.length = 32) (hi : i = (c : Int)) : over (encTel bT X) 33 [.int .i64 i] = encTel bT ⟨X.told, c⟩ := by
  subst hi
  unfold encTel
  rw [over_cons]
  have := over_mid (X.told.flatMap encI) [.int .i64 (X.cursor : Int)] [] [.int .i64 (c : Int)] 0 (by simp)
  simp only [flat_len codInt, h, List.append_nil, Nat.mul_one, Nat.add_zero] at this
  rw [this]
  rfl

def tel0 : TelS := ⟨List.replicate 32 0, 0⟩
theorem tel_build (bT : Nat) (w : World) : (Instr.build 103 #[(0, .pointer (some ⟨bT, 0, none⟩))]).run Tryd.prog w = .ok (.agg (encTel bT tel0).toArray) w := by kernel_rfl
theorem tlNew_ok (bT : Nat) (w : World) : CallC Tryd.prog 11 #[.pointer (some ⟨bT, 0, none⟩)] w fun v w' => ∃ b, v = .pointer (some ⟨b, 0, none⟩) ∧ w.heap.size ≤ b ∧ Ext No w w' ∧ Blk w' b 103 (encTel bT tel0) := by
  have hb2 : ∀ k : Value → Prop, k (.agg (encTel bT tel0).toArray) → PureC Tryd.prog (Instr.build 103 #[(0, .pointer (some ⟨bT, 0, none⟩))]) k := fun k hk => PureC.of (tel_build bT) hk
  have ho : cellsL (.agg (encTel bT tel0).toArray) = encTel bT tel0 := by simp [cellsL]
  generalize Value.agg (encTel bT tel0).toArray = VV at hb2 ho
  refine fn_intro tabOk Tryd.func11 (by kernel_rfl) rfl Tryd.ntmps11 (Nat.le_of_ble_eq_true rfl) ?_
  have hS := St.start w No
  repeat' ((conv => whnf); first | refine RetC.mk ?_ | refine hb2 _ ?_)
  refine hS.new (fun b w' hb hS => ?_)
  rw [ho] at hS
  repeat' ((conv => whnf); first | refine RetC.mk ?_ | refine NzC.mk (by decide) ?_ | refine RngC.mk (by omega) (by omega) ?_ | refine IdxC.mk (by omega) (by omega) ?_ | refine brD (fun _ => ?_) (fun _ => ?_) | refine brND (fun _ => ?_) (fun _ => ?_) | refine brN (fun _ => ?_) (fun _ => ?_) | refine brI (fun _ => ?_) (fun _ => ?_))
  exact ⟨b, rfl, hb, hS.ext, hS.blk 0 rfl⟩

/-- All that a round of a teller holds in hand. -/
def telH (bT bx b1 b3 b4 b5 r : Nat) (X : TelS) (lv ov : Value) (l : List CellS) (p : List Nat) : List Ent :=
  [blk bx 103 (encTel bT X), blk b1 29 [.pointer (some ⟨bx, 0, none⟩)], ownL 55 10 encCell lv l, blk b3 50 [lv], mapB r p, blk b4 110 [.map (some r)], blk b5 50 [ov], ownL 55 10 encCell ov (outC l p)]
theorem outC_len (l : List CellS) (p : List Nat) : (outC l p).length = p.length := by simp [outC]

section
variable {w0 w : World} {S : Nat → Prop} {bT bx b1 b3 b4 b5 r cl : Nat} {al : Option Addr} {ov : Value} {X : TelS} {l : List CellS} {p : List Nat}
theorem Ev.St.ownBNe {w0 w : World} {S : Nat → Prop} {H : List Ent} (h : St w0 S w H) (i j : Nat) {α : Type} {b : Nat} {t e : TypeId} {cs : List Value} {sz : Nat} {enc : α → List Value} {v : Value} {xs : List α} (hi : H[i]? = some (Ev.blk b t cs)) (hj : H[j]? = some (ownL e sz enc v xs)) (hne : i ≠ j) : ¬ v.ownBlock = some b := by
  intro hv
  have := pairwise_at apart_symm h.apart hi hj hne b (by simp [Ev.blk])
  simp [ownL, own, hv] at this
theorem Ev.St.ownOwnNe {w0 w : World} {S : Nat → Prop} {H : List Ent} (h : St w0 S w H) (i j : Nat) {α : Type} {b : Nat} {e : TypeId} {sz n c : Nat} {enc : α → List Value} {v : Value} {xs ys : List α} (hi : H[i]? = some (ownL e sz enc (.slice (some ⟨b, 0, none⟩) n c) ys)) (hj : H[j]? = some (ownL e sz enc v xs)) (hne : i ≠ j) : ¬ v.ownBlock = some b := by
  intro hv
  have := pairwise_at apart_symm h.apart hi hj hne b (by simp [ownL, own, Value.ownBlock])
  simp [ownL, own, hv] at this
theorem take_ok (k : Nat) (hk : k < 32) (hl : l.length = 32) (ht : X.told.length = 32) (hn : k ∉ p) (h8 : p.length < 8) (hS : St w0 S w (telH bT bx b1 b3 b4 b5 r X (.slice al 32 cl) ov l p)) :
    CallC Tryd.prog 66 #[.int .i64 (k : Int), .pointer (some ⟨b4, 0, none⟩), .pointer (some ⟨b3, 0, none⟩), .pointer (some ⟨b1, 0, none⟩), .pointer (some ⟨b5, 0, none⟩)] w fun _ w' => ∃ a' c', St w0 S w' (telH bT bx b1 b3 b4 b5 r ⟨X.told.set k (verAt l k), X.cursor⟩ (.slice al 32 cl) (.slice a' (p.length + 1) c') l (p ++ [k])) := by
  obtain ⟨x, hx⟩ : ∃ x, l[k]? = some x := ⟨_, List.getElem?_eq_getElem (by omega)⟩
  obtain ⟨u, hu⟩ : ∃ u, X.told[k]? = some u := ⟨_, List.getElem?_eq_getElem (by omega)⟩
  have hver := verAt_of hx
  have hcell := cellAt_of hx
  rw [hver]
  unfold telH at hS ⊢
  refine fn_intro tabOk Tryd.func66 (by kernel_rfl) rfl Tryd.ntmps66 (Nat.le_of_ble_eq_true rfl) ?_
  (conv => whnf)
  refine hS.ld 5 rfl rfl ?_
  (conv => whnf)
  refine hS.insB 4 rfl hn (fun w' hS => ?_)
  replace hS : St w0 S w' [blk bx 103 (encTel bT X), blk b1 29 [.pointer (some ⟨bx, 0, none⟩)], ownL 55 10 encCell (.slice al 32 cl) l, blk b3 50 [.slice al 32 cl], mapB r (p ++ [k]), blk b4 110 [.map (some r)], blk b5 50 [ov], ownL 55 10 encCell ov (outC l p)] := hS
  have h10 : ¬ b1 = bx := Blk.ne (hS.blk 1 rfl) (hS.blk 0 rfl) (by decide)
  have h30 : ¬ b3 = bx := Blk.ne (hS.blk 3 rfl) (hS.blk 0 rfl) (by decide)
  have h35 : ¬ b3 = b5 := fun e => pairwise_at apart_symm hS.apart (i := 3) (j := 6) rfl rfl (by decide) b3 (by simp [blk]) (by simp [blk, e])
  have h3o : ¬ ov.ownBlock = some b3 := hS.ownBNe 3 7 rfl rfl (by decide)
  (conv => whnf)
  (refine drawS tabOk mixed [] ((· = bx)) [0, 1, 2, 3, 4, 5, 6, 7, 8, 9, 10] (by kernel_rfl) ?_; rintro w1 rfl; replace hS := hS.drew)
  obtain ⟨bl, ol, x', hx', _, hal, _, hc⟩ := (ownL_slc (G := fun _ => True) codCell (hS.get 2 rfl) fun _ _ => trivial).at hk
  obtain rfl := Option.some.inj (hx'.symm.trans hx)
  subst hal
  have hbl : ¬ bl = bx := hS.ownNe 0 2 rfl rfl (by decide) bl ol rfl
  have hb5 : ¬ bl = b5 := hS.ownNe 6 2 rfl rfl (by decide) bl ol rfl
  have hbo : ¬ ov.ownBlock = some bl := by
    intro hv
    have := pairwise_at apart_symm hS.apart (i := 2) (j := 7) rfl rfl (by decide) bl (by simp [ownL, own, Value.ownBlock])
    simp [ownL, own, hv] at this
  repeat' ((conv => whnf); first | refine IdxC.mk (by omega) (by omega) ?_ | refine hS.ldF 1 rfl rfl h10 ?_ | refine hS.ldF 3 rfl rfl h30 ?_ | refine ldFc (hc.one 1 rfl) hbl ?_)
  refine hS.stX 0 rfl (by rw [tel_len ht]; simp [cellsL]; omega) rfl (fun w2 hx2 hS => ?_)
  refine KeepC.mk hx2 ?_
  have hc := hx2.cells hc hbl
  have ho : over (encTel bT X) (0 + 1 + Int.toNat (k : Int) * 1) (cellsL (.int .i64 x'.ver)) = encTel bT ⟨X.told.set k x'.ver, X.cursor⟩ := tel_set hu (by simp)
  replace hS : St w0 S w2 [blk bx 103 (encTel bT ⟨X.told.set k x'.ver, X.cursor⟩), blk b1 29 [.pointer (some ⟨bx, 0, none⟩)], ownL 55 10 encCell (.slice (some ⟨bl, ol, none⟩) 32 cl) l, blk b3 50 [.slice (some ⟨bl, ol, none⟩) 32 cl], mapB r (p ++ [k]), blk b4 110 [.map (some r)], blk b5 50 [ov], ownL 55 10 encCell ov (outC l p)] := by rw [← ho]; exact hS
  clear hx2 ho
  (conv => whnf)
  refine drawT tabOk mixed [0] (fun q => q = b5 ∨ ov.ownBlock = some q) (.take 1 (.take 2 (.take 3 (.take 4 (.alt 0 (.alt 5 (.alt 6 (.alt 7 .fin .fin) .fin) .fin) (.alt 5 (.alt 0 (.alt 6 (.alt 7 .fin .fin) .fin) .fin) .fin)))))) (by kernel_rfl) ?_
  rintro w1 rfl
  replace hS := hS.drew
  replace hc := (Ext.drawn No w2 (w2.drawn + 1)).cells hc id
  have no1 : ¬ (b3 = b5 ∨ ov.ownBlock = some b3) := fun e => e.elim h35 h3o
  have no2 : ¬ (bl = b5 ∨ ov.ownBlock = some bl) := fun e => e.elim hb5 hbo
  repeat' ((conv => whnf); first | refine IdxC.mk (by omega) (by omega) ?_ | refine hS.ldF 3 rfl rfl no1 ?_ | refine laFc (l := encCell x') rfl hc no2 ?_ | refine And.intro ?_ ?_)
  all_goals
    repeat' ((conv => whnf); first | refine hS.ld 6 rfl rfl ?_ | refine KeepC.mk (Ext.refl _ _) ?_ | refine KeepC.mk hx3.of_no ?_ | refine And.intro ?_ ?_ | exact trivial | refine hS.litX Tryd.underlying50 (sz := 10) (by kernel_rfl) (z := .agg (encCell ⟨0, 0, noFlow⟩).toArray) (by kernel_rfl) rfl rfl (cs := encCell x') (by rfl) (fun b9 w3 hb9 hx3 hS => ?_))
    refine hS.appX codCell 7 (ys := [x']) (G := fun _ => True) Tryd.underlying50 (bytes := 80) (by kernel_rfl) (z := .agg (encCell ⟨0, 0, noFlow⟩).toArray) (by kernel_rfl) rfl rfl (Slc.of_blk codCell (hS.blk 8 rfl) rfl (by simp) (fun _ _ => trivial) rfl) (by unfold maxLen; rw [outC_len]; omega) (by rw [outC_len]; omega) (fun a2 c2 w4 hx4 hS => ?_)
    refine KeepC.mk (hx3.of_no.trans (hx4.mono fun q hq => .inr hq)) ?_
    repeat' ((conv => whnf); first | refine And.intro ?_ ?_ | exact trivial)
    refine hS.stX 6 rfl (by simp [cellsL]) rfl (fun w5 hx5 hS => ?_)
    refine KeepC.mk ((hx3.of_no.trans (hx4.mono fun q hq => .inr hq)).trans (hx5.mono fun q hq => .inl hq)) ?_
    repeat' ((conv => whnf); first | refine RetC.mk ?_ | refine And.intro ?_ ?_ | exact trivial)
    have hoc : outC l p ++ [x'] = outC l (p ++ [k]) := by simp [outC, hcell]
    have hcl : (outC l p).length + 1 = p.length + 1 := by rw [outC_len]
    replace hS := hS.keep 8
    refine ⟨a2, c2, ?_⟩
    rw [hcl, hoc] at hS
    exact hS
end
end Go.Proofs.YteakdmngllfodaaDoor
