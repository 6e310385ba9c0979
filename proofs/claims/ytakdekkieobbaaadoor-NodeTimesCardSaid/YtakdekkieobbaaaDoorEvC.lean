
/-
  Soundness of the evaluator's pure operations: all of them.
-/
import Derived.Test.YtakdekkieobbaaaDoorEvB
namespace Go.Proofs.YtakdekkieobbaaaDoor.Ev
open Go

theorem add_none (b o n : Nat) : (⟨b, o, none⟩ : Addr).add n = ⟨b, o + n, none⟩ := by
  unfold Addr.add
  split
  · subst_vars; rfl
  · rfl

section
variable {P : Program} {τ : Tab} {N : Nat} {σ : Slots} {a : Act}

theorem tl_size {t : TypeId} {i : TI} (hτ : TabOk P τ) (h : tl τ t = some i) (w : World) : (sizeOf t).run P w = .ok i.size w := (hτ t i h).size_run w

theorem part_run {t : TypeId} {cs : List Value} {off sz : Nat} (hi : (P.info? t).isSome = true) (hd : ∃ d, P.underlying t = some d) (hs : P.cellsOf t = sz) (hle : off + sz ≤ cs.length) (h : aggB P t = true) (w : World) :
    (part t cs.toArray off).run P w = .ok (.agg ((cs.drop off).take sz).toArray) w := by
  have h1 := aggB_run w hd
  rw [h] at h1
  have h2 := cellsOf_run hi w
  simp [part, h1, h2, hs, List.extract_eq_take_drop]

theorem part_run1 {t : TypeId} {cs : List Value} {off : Nat} {v : Value} (hd : ∃ d, P.underlying t = some d) (hv : cs[off]? = some v) (h : aggB P t = false) (w : World) :
    (part t cs.toArray off).run P w = .ok v w := by
  have h1 := aggB_run w hd
  rw [h] at h1
  simp [part, h1, hv]

theorem foldl_set (vs : List Value) : ∀ (l : Array Value) (o j : Nat), (vs.zipIdx j).foldl (fun cs (x : Value × Nat) => cs.setIfInBounds (o + x.2) x.1) l = (vs.zipIdx j).foldl (fun cs (x : Value × Nat) => cs.setIfInBounds (o + x.2) x.1) l := fun _ _ _ => rfl

theorem over_set (vs : List Value) : ∀ (cs : List Value) (o j : Nat), o + j + vs.length ≤ cs.length →
    ((vs.zipIdx j).foldl (fun (cs : Array Value) (x : Value × Nat) => cs.setIfInBounds (o + x.2) x.1) cs.toArray) = (over cs (o + j) vs).toArray := by
  induction vs with
  | nil => intro cs o j h; simp [over]
  | cons v vs ih =>
    intro cs o j h
    simp only [List.zipIdx_cons, List.foldl_cons, List.setIfInBounds_toArray]
    rw [ih _ o (j + 1) (by simp at h ⊢; omega)]
    congr 1
    unfold over
    simp only [List.length_cons] at h ⊢
    rw [List.take_set, List.drop_set_of_lt (by omega)]
    have e1 : o + (j + 1) = (o + j) + 1 := by omega
    have e2 : o + j + 1 + vs.length = o + j + (vs.length + 1) := by omega
    rw [e1, e2, List.take_succ_eq_append_getElem (by omega)]
    rw [List.set_append_right (o + j) v (by simp; omega)]
    simp [Nat.min_eq_left (show o + j ≤ cs.length by omega)]

theorem buildK_sound' {fs : List (Nat × Nat × Bool)} :
    ∀ (parts : List (Nat × Value)) (z : List Value) (k : List Value → Prop), buildK fs z parts k →
      ∃ l, (∀ places : Array (Nat × Nat), (∀ (i off sz : Nat) (g : Bool), fs[i]? = some (off, sz, g) → places[i]? = some (off, sz)) → Instr.fill (places[·]?) z.toArray parts = some l.toArray) ∧ k l
  | [], z, k, h => ⟨z, fun _ _ => rfl, h⟩
  | (i, v) :: r, z, k, h => by
    unfold buildK at h
    cases hi : fs[i]? with
    | none => rw [hi] at h; exact h.elim
    | some x =>
      obtain ⟨off, sz, g⟩ := x
      rw [hi] at h
      simp only at h
      cases hb : Nat.beq (cellsL v).length sz with
      | false => rw [hb] at h; exact h.elim
      | true =>
        rw [hb] at h
        simp only at h
        have hsz := Nat.eq_of_beq_eq_true hb
        obtain ⟨hle, h⟩ := overK_spec _ _ _ _ h
        obtain ⟨l, hl, hk⟩ := buildK_sound' r _ k h
        refine ⟨l, fun places hp => ?_, hk⟩
        unfold Instr.fill
        have e1 : v.cells.size = sz := by rw [← hsz, cellsL_eq]; simp
        have e2 : v.cells.size = (cellsL v).length := by rw [cellsL_eq]; simp
        simp only [hp i off sz g hi]
        rw [if_neg (by simp only [List.size_toArray]; rw [e2] at e1; rw [e2]; simp; omega)]
        have e3 : v.cells.zipIdx.foldl (fun (cs : Array Value) (x : Value × Nat) => cs.setIfInBounds (off + x.2) x.1) z.toArray = (over z off (cellsL v)).toArray := by
          have := over_set (cellsL v) z off 0 (by omega)
          rw [← Array.foldl_toList]
          simpa [cellsL_eq] using this
        rw [← hl places hp]
        congr 1

theorem not_iface {t : TypeId} {kd : TK} (h : kindB P t kd = true) (hne : kd ≠ .iface) : ∃ d, P.underlying t = some d ∧ ∀ ms, d ≠ .interface ms := by
  cases hu : P.underlying t with
  | none => cases kd <;> simp [kindB, hu] at h
  | some d =>
    refine ⟨d, rfl, fun ms hd => ?_⟩
    subst hd
    cases kd <;> simp [kindB, hu] at h
    exact hne rfl

theorem build_run {t : TypeId} {fs : List (Nat × Nat × Bool)} {n : Nat} {z : Value} {zs : List Value} (hok : TIok P t ⟨n, .struct fs, z :: zs⟩) {parts : List (Nat × Value)} {l : List Value}
    (hl : ∀ places : Array (Nat × Nat), (∀ (i off sz : Nat) (g : Bool), fs[i]? = some (off, sz, g) → places[i]? = some (off, sz)) → Instr.fill (places[·]?) (z :: zs).toArray parts = some l.toArray) (w : World) :
    (Instr.build t parts.toArray).run P w = .ok (.agg l.toArray) w := by
  obtain ⟨F, hu, _, hF⟩ := under_struct (t := t) hok.kind
  have hz := hok.zero.resolve_left (by simp)
  simp only [TK.agg] at hz
  obtain ⟨inf, h1, h2⟩ := Option.bind_eq_some_iff.1 hz
  have hmap : ∀ (L : List Field) (w : World), (∀ f ∈ L, (P.info? f.type).isSome = true) → (L.mapM (fun f => (do pure (f.offset, ← sizeOf f.type) : Sem (Nat × Nat)))).run P w = .ok (L.map fun f => (f.offset, P.cellsOf f.type)) w := by
    intro L
    induction L with
    | nil => intro w _; rfl
    | cons f L ih =>
      intro w hL
      rw [List.mapM_cons, Sem.run_bind]
      have e1 : (do pure (f.offset, ← sizeOf f.type) : Sem (Nat × Nat)).run P w = .ok (f.offset, P.cellsOf f.type) w := by
        simp [cellsOf_run (hL f (by simp)) w]
      rw [e1, Result.andThen_ok, Sem.run_bind, ih w (fun g hg => hL g (by simp [hg]))]
      rfl
  have hall : ∀ f ∈ F.toList, (P.info? f.type).isSome = true := by
    intro f hf
    obtain ⟨i, hi, rfl⟩ := List.mem_iff_getElem.1 hf
    have hi' : i < fs.length := by rw [← ‹F.size = fs.length›]; simpa using hi
    obtain ⟨g, hg, _, _, _, hinf, _⟩ := hF i (fs[i]).1 (fs[i]).2.1 (fs[i]).2.2 (by simp [List.getElem?_eq_getElem hi'])
    have : F.toList[i] = g := by
      have := (Array.getElem?_eq_some_iff.1 hg).2
      simpa using this
    rw [this]
    exact hinf
  have hm := hmap F.toList w hall
  have hplaces : (F.mapM (fun f => (do pure (f.offset, ← sizeOf f.type) : Sem (Nat × Nat)))).run P w = .ok (F.toList.map fun f => (f.offset, P.cellsOf f.type)).toArray w := by
    rw [Array.mapM_eq_mapM_toList, Sem.run_map, hm]
    rfl
  have hfill := hl (F.toList.map fun f => (f.offset, P.cellsOf f.type)).toArray (by
    intro i off sz g hi
    obtain ⟨f, hf, rfl, rfl, _⟩ := hF i off sz g hi
    simp [hf])
  have z1 : (zeroValue t).run P w = .ok (.agg (z :: zs).toArray) w := by simp [zeroValue, typeInfo, h1, h2]
  have u1 : (underlying t).run P w = .ok (.struct F) w := by simp [underlying, hu]
  rw [Instr.build, Sem.run_bind, z1, Result.andThen_ok, Sem.run_bind, u1, Result.andThen_ok]
  simp only []
  rw [Sem.run_bind, hplaces, Result.andThen_ok]
  simp only [Value.cells, hfill]
  rfl

theorem pure_sound (hτ : TabOk P τ) (hf : Fits N σ a) {o : Oper} {k : Value → Prop} (h : pureOp P τ σ o.op k) : ∃ v, Yv P o a v ∧ k v := by
  obtain ⟨dst, op, ty, pos, after, guard⟩ := o
  unfold Yv
  simp only at h
  unfold pureOp at h
  split at h
  · split at h
    · rename_i hx
      exact ⟨_, fun w => by simp [execOp, ro_eval hf hx], h⟩
    · exact h.elim
  · split at h
    · rename_i hx
      exact ⟨_, fun w => by simp [execOp, ro_eval hf hx], h⟩
    · exact h.elim
  · split at h
    · rename_i b hc
      rcases br_elim h with ⟨rfl, h2⟩ | ⟨rfl, h2⟩
      · split at h2
        · rename_i hx
          exact ⟨_, fun w => by simp [execOp, ro_eval hf hx, ro_eval hf hc, asBool], h2⟩
        · exact h2.elim
      · split at h2
        · rename_i hx
          exact ⟨_, fun w => by simp [execOp, ro_eval hf hx, ro_eval hf hc, asBool], h2⟩
        · exact h2.elim
    · exact h.elim
  · split at h
    · rename_i hx
      exact ⟨_, fun w => by simp [execOp, ro_eval hf hx, Op.unary], h⟩
    · exact h.elim
  · split at h
    · rename_i hx
      exact ⟨_, fun w => by simp only [execOp, ro_eval hf hx]; exact yv_of (fun w => by simp only [Op.unary, Op.intArith, wrap_in h.lo h.hi]; rfl) w, h.go⟩
    · exact h.elim
  · split at h
    · rename_i hx
      obtain ⟨r, hr, hk⟩ := h.ex
      refine ⟨r, fun w => ?_, hk⟩
      simp only [execOp, ro_eval hf hx]
      exact yv_of hr w
    · exact h.elim
  · split at h
    · rename_i hx hy
      obtain ⟨r, hr, hk⟩ := pBin_sound (x := _) hτ h
      refine ⟨r, fun w => ?_, hk⟩
      simp only [execOp, ro_eval hf hx, ro_eval hf hy]
      exact yv_of (fun w => hr w) w
    · exact h.elim
  · split at h
    · rename_i hx
      split at h
      · rename_i hn
        rw [nth_eq] at hn
        exact ⟨_, fun w => by simp [execOp, ro_eval hf hx, Instr.extract, ← Array.getElem?_toList, hn], h⟩
      · exact h.elim
    · exact h.elim
  · split at h
    · rename_i hx
      exact ⟨_, fun w => by simp only [execOp, ro_eval hf hx]; rfl, h⟩
    · rename_i hx
      exact ⟨_, fun w => by simp only [execOp, ro_eval hf hx]; rfl, h⟩
    · exact h.elim
  · split at h
    · rename_i hx hi
      split at h
      · rename_i hfs
        obtain ⟨F, hu, _, hF⟩ := under_struct (under_of hτ hi)
        obtain ⟨f, hf1, rfl, hf3, hf4, hf5, hf6, hf7⟩ := hF _ _ _ _ hfs
        refine ⟨_, fun w => ?_, h⟩
        simp only [execOp, ro_eval hf hx]
        refine yv_of (fun w => ?_) w
        simp [Instr.fieldAt, underlying, hu, hf1, Instr.sureAddr, fieldPlace, cellsOf_run hf5 w, hf3, hf7, add_none]
      · exact h.elim
    · exact h.elim
  · split at h
    · rename_i hx hi ht
      obtain ⟨hu, he, hg, hI, hd⟩ := under_arr (under_of hτ ht)
      refine ⟨_, fun w => ?_, h.go⟩
      simp only [execOp, ro_eval hf hx, ro_eval hf hi]
      refine yv_of (fun w => ?_) w
      simp [Instr.indexAt, asIntOf, underlying, hu, Instr.sureAddr, h.lo, h.hi, cellsOf_run hI w, he, add_none]
    · rename_i hx hi ht
      obtain ⟨hu, he, hg, hI, hd⟩ := under_slice (under_of hτ ht)
      refine ⟨_, fun w => ?_, h.go⟩
      simp only [execOp, ro_eval hf hx, ro_eval hf hi]
      refine yv_of (fun w => ?_) w
      simp [Instr.indexAt, asIntOf, underlying, hu, h.lo, h.hi, cellsOf_run hI w, he, add_none]
    · exact h.elim
  · split at h
    · rename_i hx hi
      obtain ⟨r, hr, hk⟩ := h.ex
      refine ⟨r, fun w => ?_, hk⟩
      simp only [execOp, ro_eval hf hx, ro_eval hf hi]
      exact yv_of hr w
    · exact h.elim
  · split at h
    · rename_i hx ht
      obtain ⟨F, hu, _, hF⟩ := under_struct (under_of hτ ht)
      split at h
      · rename_i hfs
        obtain ⟨f, hf1, rfl, hf3, hf4, hf5, hf6, hf7⟩ := hF _ _ _ _ hfs
        obtain ⟨hle, hk⟩ := subK_spec _ _ _ _ h
        refine ⟨_, fun w => ?_, hk⟩
        simp only [execOp, ro_eval hf hx]
        refine yv_of (fun w => ?_) w
        have e := part_run hf5 hf6 hf3 hle hf4 w
        simp [Instr.field, underlying, hu, hf1, asAgg] at e ⊢
        exact e
      · rename_i hfs
        obtain ⟨f, hf1, rfl, hf3, hf4, hf5, hf6, hf7⟩ := hF _ _ _ _ hfs
        split at h
        · rename_i hn
          rw [nth_eq] at hn
          refine ⟨_, fun w => ?_, h⟩
          simp only [execOp, ro_eval hf hx]
          refine yv_of (fun w => ?_) w
          have e := part_run1 hf6 hn hf4 w
          simp [Instr.field, underlying, hu, hf1, asAgg] at e ⊢
          exact e
        · exact h.elim
      · exact h.elim
    · exact h.elim
  · split at h
    · rename_i v _ kd _ hx ht
      have hk := under_of hτ ht
      split at h
      · exact h.elim
      · rename_i hne
        obtain ⟨d, hd, hdn⟩ := not_iface hk (fun e => hne e)
        refine ⟨_, fun w => ?_, h⟩
        simp only [execOp, ro_eval hf hx]
        refine yv_of (fun w => ?_) w
        cases d <;> simp [Instr.makeInterface, underlying, hd] at hdn ⊢
    · exact h.elim
  · have h1 := roAll_spec hf _ _ h
    have h2 := roAll_spec hf _ _ h1
    exact ⟨_, fun w => by simp [execOp, Instr.makeFunc, ← List.map_toArray], h2⟩
  · have h1 := roParts_spec hf _ _ h
    split at h1
    · rename_i ht
      have hok := hτ _ _ ht
      obtain ⟨l, hl, hk⟩ := buildK_sound' _ _ _ h1
      refine ⟨_, fun w => ?_, hk⟩
      simp only [execOp]
      refine yv_of (fun w => ?_) w
      have := build_run hok hl w
      rw [← this]
      congr 2
      rw [← List.map_toArray]
    · obtain ⟨r, hr, hk⟩ := h1.ex
      refine ⟨r, fun w => ?_, hk⟩
      simp only [execOp]
      refine yv_of (fun w => ?_) w
      rw [← hr w]
      congr 2
      rw [← List.map_toArray]
  · have h1 := roAll_spec hf _ _ h
    rename_i as ts
    have hmap : as.map a.eval = (as.toList.map a.eval).toArray := by rw [← List.map_toArray]
    split at h1
    · rename_i hv hts
      split at h1
      · rename_i ht
        obtain ⟨hu, _⟩ := under_slice (under_of hτ ht)
        refine ⟨_, fun w => ?_, h1⟩
        obtain rfl : ts = #[_] := by rw [← Array.toArray_toList (xs := ts), hts]
        simp [execOp, resolve, invoke, builtin, hmap, hv, Builtin.len_, underlying, hu, goInt]
      · exact h1.elim
    · rename_i hv hts
      split at h1
      · rename_i ht
        have hu := under_str (under_of hτ ht)
        refine ⟨_, fun w => ?_, h1⟩
        obtain rfl : ts = #[_] := by rw [← Array.toArray_toList (xs := ts), hts]
        simp [execOp, resolve, invoke, builtin, hmap, hv, Builtin.len_, underlying, hu, goInt]
      · exact h1.elim
    · rename_i hv hts
      split at h1
      · rename_i ht
        obtain ⟨hu, _⟩ := under_arr (under_of hτ ht)
        refine ⟨_, fun w => ?_, h1⟩
        obtain rfl : ts = #[_] := by rw [← Array.toArray_toList (xs := ts), hts]
        simp [execOp, resolve, invoke, builtin, hmap, hv, Builtin.len_, underlying, hu, goInt]
      · exact h1.elim
    · exact h1.elim
  · have h1 := roAll_spec hf _ _ h
    rename_i as ts
    have hmap : as.map a.eval = (as.toList.map a.eval).toArray := by rw [← List.map_toArray]
    split at h1
    · rename_i hv hts
      split at h1
      · rename_i ht
        obtain ⟨hu, _⟩ := under_slice (under_of hτ ht)
        refine ⟨_, fun w => ?_, h1⟩
        obtain rfl : ts = #[_] := by rw [← Array.toArray_toList (xs := ts), hts]
        simp [execOp, resolve, invoke, builtin, hmap, hv, Builtin.cap_, underlying, hu, goInt]
      · exact h1.elim
    · exact h1.elim
  · have h1 := roAll_spec hf _ _ h
    rename_i as ts
    have hmap : as.map a.eval = (as.toList.map a.eval).toArray := by rw [← List.map_toArray]
    split at h1
    · rename_i hv
      refine ⟨_, fun w => ?_, h1⟩
      simp [execOp, resolve, invoke, builtin, hmap, hv, Builtin.min_, Builtin.min2]
    · exact h1.elim
  · have h1 := roAll_spec hf _ _ h
    rename_i as ts
    have hmap : as.map a.eval = (as.toList.map a.eval).toArray := by rw [← List.map_toArray]
    split at h1
    · rename_i hv
      refine ⟨_, fun w => ?_, h1⟩
      simp [execOp, resolve, invoke, builtin, hmap, hv, Builtin.max_, Builtin.max2]
    · exact h1.elim
  · split at h
    · rename_i hx
      obtain ⟨r, hr, hk⟩ := h.ex
      exact ⟨r, fun w => by simp only [execOp, ro_eval hf hx]; exact yv_of hr w, hk⟩
    · rename_i hx
      obtain ⟨r, hr, hk⟩ := h.ex
      exact ⟨r, fun w => by simp only [execOp, ro_eval hf hx]; exact yv_of hr w, hk⟩
    · exact h.elim
  · split at h
    · rename_i hx ht
      obtain ⟨hu, he, hg, hI, hd⟩ := under_arr (under_of hτ ht)
      split at h
      · exact h.elim
      · rename_i hn0
        have hn : _ ≠ 0 := Nat.ne_of_beq_eq_false hn0
        refine ⟨_, fun w => ?_, h⟩
        simp only [execOp, ro_eval hf hx]
        refine yv_of (fun w => ?_) w
        simp [Instr.sliceAt, underlying, hu, Instr.sureAddr, Instr.sliceBounds, cellsOf_run hI w, add_none]
    · exact h.elim
  · split at h
    · rename_i hx hl hh
      obtain ⟨r, hr, hk⟩ := h.ex
      refine ⟨r, fun w => ?_, hk⟩
      simp only [execOp, ro_eval hf hx]
      refine yv_of (fun w => ?_) w
      rw [← hr w]
      have hopt : ∀ (o : Option Operand) (u : Option Value), (o.elim (some none) fun y => (ro σ y).map some) = some u → o.map a.eval = u := by
        intro o u ho
        cases o with
        | none => simpa using ho
        | some y =>
          simp only [Option.elim_some, Option.map_eq_some_iff] at ho
          obtain ⟨v, hv, rfl⟩ := ho
          simp [ro_eval hf hv]
      rw [hopt _ _ hl, hopt _ _ hh]
      rfl
    · exact h.elim
  · exact h.elim
end
end Go.Proofs.YtakdekkieobbaaaDoor.Ev
