
/-
  The program's errors: each by its number; where the variables of package api hold them.
-/
import Derived.Test.YtakdekkieobbaaaDoorTab
import Derived.Test.YtakdekkieobbaaaDoorLawA
import Derived.LaidSub
import Derived.Stop.LaidTwo
namespace Go.Proofs.YtakdekkieobbaaaDoor
open Go Ev

abbrev encI (x : Int) : List Value := [.int .i64 x]
abbrev encB (x : Bool) : List Value := [.bool x]

theorem Ev.St.fresh {w0 w : World} {H : List Ent} (h : St w0 No w H) (i : Nat) {b : Nat} {t : TypeId} {cs : List Value} (hi : H[i]? = some (Ev.blk b t cs)) : w0.heap.size ≤ b := by
  rcases (h.may _ (List.mem_of_getElem? hi) b (by simp [Ev.blk])).1 with h | h
  · exact h.elim
  · exact h
/-- What an element of a slice argument says of memory. -/
theorem Ev.Slc.at1 {α : Type} {w : World} {enc : α → List Value} {G : α → Prop} {a : Option Addr} {n : Nat} {xs : List α} (h : Slc w 1 enc G a n xs) {k : Nat} (hk : k < n) : ∃ b o x, xs[k]? = some x ∧ G x ∧ a = some ⟨b, o, none⟩ ∧ CellsAt w b (o + k * 1) (enc x) := by
  have hlt : k < xs.length := by rw [h.len]; exact hk
  obtain ⟨b, o, ha, _, hc⟩ := h.cells k _ (List.getElem?_eq_getElem hlt)
  exact ⟨b, o, _, List.getElem?_eq_getElem hlt, h.good _ (List.getElem_mem hlt), ha, hc⟩

/-- An error by its number: nil, or what the package's variable holds. -/
def errV (E : Nat → Addr) : Nat → Value
  | 0 => .nilIface
  | k + 1 => .iface 98 (.pointer (some (E (k + 1))))

/-- The package's variable of that number. -/
def gErr : Nat → Nat
  | 1 => 0
  | 2 => 1
  | 3 => 2
  | 4 => 3
  | 5 => 4
  | 6 => 5
  | 7 => 6
  | 8 => 7
  | 9 => 8
  | 10 => 9
  | _ => 10

/-- The row's entry of that number. -/
def errRow {H : Type} : Nat → String × DataW H
  | 1 => ("twinrampart/api.ErrText", .iface "*errors.errorString" (.ptr (.agg [.lit (.string [116, 119, 105, 110, 114, 97, 109, 112, 97, 114, 116, 58, 32, 116, 101, 120, 116])])))
  | 2 => ("twinrampart/api.ErrBound", .iface "*errors.errorString" (.ptr (.agg [.lit (.string [116, 119, 105, 110, 114, 97, 109, 112, 97, 114, 116, 58, 32, 98, 111, 117, 110, 100])])))
  | 3 => ("twinrampart/api.ErrShape", .iface "*errors.errorString" (.ptr (.agg [.lit (.string [116, 119, 105, 110, 114, 97, 109, 112, 97, 114, 116, 58, 32, 115, 104, 97, 112, 101])])))
  | 4 => ("twinrampart/api.ErrNone", .iface "*errors.errorString" (.ptr (.agg [.lit (.string [116, 119, 105, 110, 114, 97, 109, 112, 97, 114, 116, 58, 32, 110, 111, 110, 101])])))
  | 5 => ("twinrampart/api.ErrExist", .iface "*errors.errorString" (.ptr (.agg [.lit (.string [116, 119, 105, 110, 114, 97, 109, 112, 97, 114, 116, 58, 32, 101, 120, 105, 115, 116])])))
  | 6 => ("twinrampart/api.ErrFull", .iface "*errors.errorString" (.ptr (.agg [.lit (.string [116, 119, 105, 110, 114, 97, 109, 112, 97, 114, 116, 58, 32, 102, 117, 108, 108])])))
  | 7 => ("twinrampart/api.ErrOff", .iface "*errors.errorString" (.ptr (.agg [.lit (.string [116, 119, 105, 110, 114, 97, 109, 112, 97, 114, 116, 58, 32, 111, 102, 102])])))
  | 8 => ("twinrampart/api.ErrDeny", .iface "*errors.errorString" (.ptr (.agg [.lit (.string [116, 119, 105, 110, 114, 97, 109, 112, 97, 114, 116, 58, 32, 100, 101, 110, 121])])))
  | 9 => ("twinrampart/api.ErrState", .iface "*errors.errorString" (.ptr (.agg [.lit (.string [116, 119, 105, 110, 114, 97, 109, 112, 97, 114, 116, 58, 32, 115, 116, 97, 116, 101])])))
  | 10 => ("twinrampart/api.ErrOld", .iface "*errors.errorString" (.ptr (.agg [.lit (.string [116, 119, 105, 110, 114, 97, 109, 112, 97, 114, 116, 58, 32, 111, 108, 100])])))
  | _ => ("twinrampart/api.ErrHeld", .iface "*errors.errorString" (.ptr (.agg [.lit (.string [116, 119, 105, 110, 114, 97, 109, 112, 97, 114, 116, 58, 32, 104, 101, 108, 100])])))

theorem errRow_named (k : Nat) : Tryd.prog.globalNamed (errRow (H := Unit) k).1 = some (gErr k) ∧ (Tryd.prog.globals[gErr k]?).map (·.type) = some 32 := by
  unfold errRow gErr
  split <;> exact ⟨by kernel_rfl, by kernel_rfl⟩

theorem errRow_form (k : Nat) : ∃ n text, errRow (H := Unit) k = (n, .iface "*errors.errorString" (.ptr (.agg [.lit (.string text)]))) := by
  unfold errRow
  split <;> exact ⟨_, _, rfl⟩

theorem errStar : "*" ++ "errors.errorString" = "*errors.errorString" := by decide
theorem errStr_only (u : TypeId) (h : Tryd.prog.typeName? 3 u = some "*errors.errorString") : u = 98 :=
  typeName_ptr_named (nm := "errors.errorString") (by rw [errStar]; kernel_rfl) (by kernel_rfl) (by decide) u (by rw [errStar]; exact h)

/-- The errors of the numbers 'ks' are in their variables; those lie below n. -/
structure Errs (w : World) (E : Nat → Addr) (n : Nat) (ks : List Nat) : Prop where
  at_ : ∀ k, ks.contains k = true → w.cell? ⟨gErr k, 0, none⟩ = some (.iface 98 (.pointer (some (E k))))
  lt : ∀ k, ks.contains k = true → gErr k < n
  row : ∀ k, ks.contains k = true → (∃ c t, w.heap[(E k).block]? = some (.cells c t (0, 0))) ∧ (E k).block < n
  inj : ∀ j k, ks.contains j = true → ks.contains k = true → j ≠ k → E j ≠ E k

theorem Errs.ext {w w' : World} {E : Nat → Addr} {n : Nat} {ks : List Nat} {S : Nat → Prop} (h : Errs w E n ks) (hx : Ext S w w') (hS : ∀ b, S b → n ≤ b) : Errs w' E n ks :=
  ⟨fun k hk => hx.cell (h.at_ k hk) (fun hs => by have := hS _ hs; have := h.lt k hk; omega), h.lt, fun k hk => by
    obtain ⟨⟨c, t, hc⟩, hb⟩ := h.row k hk
    refine ⟨⟨c, t, ?_⟩, hb⟩
    rw [hx.block _ (Array.getElem?_eq_some_iff.1 hc).1 (fun hs => by have := hS _ hs; omega)]
    exact hc, h.inj⟩
theorem Errs.sub {w : World} {E : Nat → Addr} {n : Nat} {ks ks' : List Nat} (h : Errs w E n ks) (hs : ks'.all (fun k => ks.contains k) = true) : Errs w E n ks' := by
  have key : ∀ k, ks'.contains k = true → ks.contains k = true := fun k hk => List.all_eq_true.1 hs k (by simpa using hk)
  exact ⟨fun k hk => h.at_ k (key k hk), fun k hk => h.lt k (key k hk), fun k hk => h.row k (key k hk), fun j k hj hk => h.inj j k (key j hj) (key k hk)⟩
theorem Errs.le {w : World} {E : Nat → Addr} {n n' : Nat} {ks : List Nat} (h : Errs w E n ks) (hn : n ≤ n') : Errs w E n' ks :=
  ⟨h.at_, fun k hk => Nat.lt_of_lt_of_le (h.lt k hk) hn, fun k hk => ⟨(h.row k hk).1, Nat.lt_of_lt_of_le (h.row k hk).2 hn⟩, h.inj⟩
theorem Errs.ne {w : World} {E : Nat → Addr} {n : Nat} {ks : List Nat} (h : Errs w E n ks) (k : Nat) (hk : ks.contains k = true) {b : Nat} (hb : n ≤ b) : gErr k ≠ b := by
  have := h.lt k hk
  omega

theorem laidVars_sub {P : Program} {w : World} {l l' : List (String × DataW Unit)} (hs : l'.Sublist l) : ∀ {ps : List MemPlace}, DataW.LaidVars P w l ps → ∃ ps', DataW.LaidVars P w l' ps' ∧ ps'.Sublist ps := by
  induction hs with
  | slnil => exact fun {ps} h => ⟨ps, h, List.Sublist.refl _⟩
  | cons x hs ih =>
    intro ps h
    obtain ⟨n, d⟩ := x
    obtain ⟨g, t, cs, fuel, p, q, e1, e2, e3, e4, hr, rfl⟩ := h
    obtain ⟨q', hq, hs⟩ := ih hr
    exact ⟨q', hq, hs.trans (List.sublist_append_right _ _)⟩
  | cons_cons x hs ih =>
    intro ps h
    obtain ⟨n, d⟩ := x
    obtain ⟨g, t, cs, fuel, p, q, e1, e2, e3, e4, hr, rfl⟩ := h
    obtain ⟨q', hq, hs⟩ := ih hr
    exact ⟨_, ⟨g, t, cs, fuel, p, q', e1, e2, e3, e4, hq, rfl⟩, List.Sublist.append (List.Sublist.refl _) hs⟩
theorem laidMet_sub {P : Program} {w : World} {l l' : List (String × DataW Unit)} (hs : l'.Sublist l) (h : laidMet P l w) : laidMet P l' w := by
  obtain ⟨ps, hl, hnd, hrows⟩ := h
  obtain ⟨ps', hl', hs⟩ := laidVars_sub hs hl
  exact ⟨ps', hl', hnd.sublist hs, fun b off hp => hrows b off (hs.subset hp)⟩
theorem pair_sub {α : Type} {x y : α} (hne : x ≠ y) {l : List α} (hx : x ∈ l) (hy : y ∈ l) : [x, y].Sublist l ∨ [y, x].Sublist l := by
  induction l with
  | nil => cases hx
  | cons z l ih =>
    rcases List.mem_cons.1 hx with h1 | h1
    · rcases List.mem_cons.1 hy with h2 | h2
      · exact absurd (h1.trans h2.symm) hne
      · subst h1
        exact .inl (.cons_cons _ (List.singleton_sublist.2 h2))
    · rcases List.mem_cons.1 hy with h2 | h2
      · subst h2
        exact .inr (.cons_cons _ (List.singleton_sublist.2 h1))
      · rcases ih h1 h2 with h | h
        · exact .inl (.cons _ h)
        · exact .inr (.cons _ h)

theorem gErr_inj (j : Nat) (hj : j < 12) (k : Nat) (hk : k < 12) (j0 : 0 < j) (k0 : 0 < k) (hne : j ≠ k) : gErr j ≠ gErr k := by
  have h : ((List.range 12).all fun j => (List.range 12).all fun k => Nat.beq j 0 || Nat.beq k 0 || Nat.beq j k || !Nat.beq (gErr j) (gErr k)) = true := by rfl
  have h1 := List.all_eq_true.1 (List.all_eq_true.1 h j (List.mem_range.2 hj)) k (List.mem_range.2 hk)
  intro he
  rw [he] at h1
  simp at h1
  omega

/-- One sentinel, with its row. -/
theorem sentinel1 {P : Program} {n nm : String} {text : List UInt8} {W : World} {g : Nat} {ti tp te ts : TypeId} {ms : Array (String × TypeId)} {f : Field}
    (h : laidMet P [(n, .iface nm (.ptr (.agg [.lit (.string text)])))] W)
    (hg : P.globalNamed n = some g) (ht : (P.globals[g]?).map (·.type) = some ti) (hi : P.underlying ti = some (.interface ms)) (hrow : ∀ u, P.typeName? 3 u = some nm → u = tp)
    (hp : P.underlying tp = some (.pointer te)) (he : P.underlying te = some (.struct #[f])) (hft : f.type = ts) (hfo : f.offset = 0) (hs : P.underlying ts = some .string) (hc : P.cellsOf te = 1) (hcs : P.cellsOf ts = 1) :
    ∃ (a : Addr), W.cell? ⟨g, 0, none⟩ = some (.iface tp (.pointer (some a))) ∧ (∃ c t, W.heap[a.block]? = some (.cells c t (0, 0))) := by
  obtain ⟨ps, ⟨g0, t0, cs0, f0, p0, q0, hg0, ht0, hv0, hd0, _, e0⟩, _, hrows⟩ := h
  obtain rfl := Option.some.inj (hg.symm.trans hg0)
  obtain rfl := Option.some.inj (ht.symm.trans ht0)
  subst e0
  obtain ⟨l0⟩ := cs0
  have ok0 : ∀ u v, l0 = [.iface u v] → Value.okWide P W .any 0 u v := fun u v e => by
    subst e
    exact (hrows g 0 (by simp [MemPlace.row])).2 u v (by simpa using World.var?_cell hg0 hv0 0)
  obtain ⟨a0, s0, rfl, hc0, hs0, hz0, rfl⟩ := errorString_of_trod hi hrow hp he hft hfo hs hc hcs hd0 ok0
  refine ⟨a0, by simpa using World.var?_cell hg0 hv0 0, ?_⟩
  obtain ⟨c, t, hb⟩ := (hrows a0.block a0.off (by simp [MemPlace.row])).1
  exact ⟨c, t, hb⟩

theorem errs_of {L : List (String × DataW Unit)} {W : World} (ks : List Nat) (hks : ks.all (fun k => decide (0 < k ∧ k < 12)) = true) (hl : laidMetH Tryd.prog L W) (hm : ∀ k ∈ ks, errRow k ∈ L) : ∃ E, Errs W E W.heap.size ks := by
  have h1 := (laidMetH_iff.1 hl).1
  have hin : ∀ k, k ∈ ks → errRow (H := Unit) k ∈ L.filter fun x => x.2.handleName?.isNone := fun k hk => by
    obtain ⟨n, text, hf⟩ := errRow_form k
    refine List.mem_filter.2 ⟨hm k hk, ?_⟩
    rw [hf]
    rfl
  have key : ∀ k, ∃ a : Addr, k ∈ ks → W.cell? ⟨gErr k, 0, none⟩ = some (.iface 98 (.pointer (some a))) ∧ (∃ c t, W.heap[a.block]? = some (.cells c t (0, 0))) := by
    intro k
    by_cases hk : k ∈ ks
    · have hk2 := hin k hk
      obtain ⟨hg, ht⟩ := errRow_named k
      obtain ⟨n, text, hf⟩ := errRow_form k
      rw [hf] at hk2 hg
      have h2 := laidMet_sub (List.singleton_sublist.2 hk2) h1
      obtain ⟨a, h3, h4⟩ := sentinel1 (P := Tryd.prog) h2 hg ht Tryd.underlying32 errStr_only Tryd.underlying98 Tryd.underlying100 rfl rfl Tryd.underlying9 (by kernel_rfl) (by kernel_rfl)
      exact ⟨a, fun _ => ⟨h3, h4⟩⟩
    · exact ⟨⟨0, 0, none⟩, fun h => absurd h hk⟩
  have spec : ∀ k, ks.contains k = true → _ := fun k hk => (key k).choose_spec (by simpa using hk)
  refine ⟨fun k => (key k).choose, fun k hk => (spec k hk).1, fun k hk => ?_, fun k hk => ?_, fun j k hj hk hne => ?_⟩
  · exact cell_lt (spec k hk).1
  · obtain ⟨_, c, t, hc⟩ := spec k hk
    exact ⟨⟨c, t, hc⟩, (Array.getElem?_eq_some_iff.1 hc).1⟩
  · have bj := of_decide_eq_true (List.all_eq_true.1 hks j (by simpa using hj))
    have bk := of_decide_eq_true (List.all_eq_true.1 hks k (by simpa using hk))
    have gne := gErr_inj j bj.2 k bk.2 bj.1 bk.1 hne
    have two : ∀ j k, ks.contains j = true → ks.contains k = true → [errRow (H := Unit) j, errRow k].Sublist (L.filter fun x => x.2.handleName?.isNone) → (key j).choose ≠ (key k).choose := by
      intro j k hj hk hsub
      have h2 := laidMet_sub hsub h1
      obtain ⟨hgj, htj⟩ := errRow_named j
      obtain ⟨hgk, htk⟩ := errRow_named k
      obtain ⟨nj, textj, hfj⟩ := errRow_form j
      obtain ⟨nk, textk, hfk⟩ := errRow_form k
      rw [hfj] at hgj
      rw [hfk] at hgk
      rw [hfj, hfk] at h2
      obtain ⟨a0, a1, _, _, _, _, _, _, v0, v1, _, _, _, _, _, _, hne2, _⟩ := laid_sentinels2 (P := Tryd.prog) h2 hgj htj hgk htk Tryd.underlying32 errStr_only Tryd.underlying98 Tryd.underlying100 rfl rfl Tryd.underlying9 (by kernel_rfl) (by kernel_rfl)
      have c0 : W.cell? ⟨gErr j, 0, none⟩ = some (.iface 98 (.pointer (some a0))) := by simpa using World.var?_cell hgj v0 0
      have c1 : W.cell? ⟨gErr k, 0, none⟩ = some (.iface 98 (.pointer (some a1))) := by simpa using World.var?_cell hgk v1 0
      have d0 := (spec j hj).1
      have d1 := (spec k hk).1
      have d0 := c0.symm.trans d0
      have d1 := c1.symm.trans d1
      simp only [Option.some.injEq, Value.iface.injEq, Value.pointer.injEq, true_and] at d0 d1
      intro he
      exact hne2 (d0.trans (he.trans d1.symm))
    have hrne : errRow (H := Unit) j ≠ errRow k := by
      intro he
      have a := (errRow_named j).1
      rw [he, (errRow_named k).1] at a
      exact gne (Option.some.inj a).symm
    rcases pair_sub hrne (hin j (by simpa using hj)) (hin k (by simpa using hk)) with h | h
    · exact two j k hj hk h
    · exact (two k j hk hj h).symm
end Go.Proofs.YtakdekkieobbaaaDoor
