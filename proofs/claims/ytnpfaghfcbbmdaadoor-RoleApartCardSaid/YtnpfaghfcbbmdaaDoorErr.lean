/-
  The program's errors: each by its number; where the variables of package api hold them.
-/
import Derived.Test.YtnpfaghfcbbmdaaDoorTab
import Derived.Test.YtnpfaghfcbbmdaaDoorLawA
import Derived.LaidSub
namespace Go.Proofs.YtnpfaghfcbbmdaaDoor
open Go Ev

abbrev encI (x : Int) : List Value := [.int .i64 x]
abbrev encB (x : Bool) : List Value := [.bool x]

theorem Ev.St.fresh {w0 w : World} {H : List Ent} (h : St w0 No w H) (i : Nat) {b : Nat} {t : TypeId} {cs : List Value} (hi : H[i]? = some (Ev.blk b t cs)) : w0.heap.size ≤ b := by
  rcases (h.may _ (List.mem_of_getElem? hi) b (by simp [Ev.blk])).1 with h | h
  · exact h.elim
  · exact h
/-- What an element of a slice argument says of memory. -/
theorem Ev.Slc.at1 {α : Type} {w : World} {enc : α → List Value} {G : α → Prop} {a : Option Addr} {n : Nat} {xs : List α} (h : Slc w 1 enc G a n xs) {k : Nat} (hk : k < n) : ∃ b o x, xs[k]? = some x ∧ G x ∧ a = some ⟨b, o, none⟩ ∧ CellsAt w b (o + k * 1) (enc x) := by
  have hlt : k < xs.length := by rw [h.len]; exact hk
  obtain ⟨b, o, ha, _, hc⟩ := h.cells k _ (List.getElem?_eq_getElem hlt)
  exact ⟨b, o, _, List.getElem?_eq_getElem hlt, h.good _ (List.getElem_mem hlt), ha, hc⟩

/-- An error by its number: nil, or what the package's variable holds. -/
def errV (E : Nat → Addr) : Nat → Value
  | 0 => .nilIface
  | k + 1 => .iface 150 (.pointer (some (E (k + 1))))

/-- The package's variable of that number. -/
def gErr : Nat → Nat
  | 1 => 7
  | 2 => 0
  | 3 => 3
  | 4 => 8
  | 5 => 5
  | 6 => 6
  | 7 => 9
  | 8 => 10
  | 9 => 1
  | 10 => 4
  | _ => 2

/-- The row's entry of that number. -/
def errRow {H : Type} : Nat → String × DataW H
  | 1 => ("twinrampart/api.ErrText", .iface "*errors.errorString" (.ptr (.agg [.lit (.string [116, 119, 105, 110, 114, 97, 109, 112, 97, 114, 116, 58, 32, 116, 101, 120, 116])])))
  | 2 => ("twinrampart/api.ErrBound", .iface "*errors.errorString" (.ptr (.agg [.lit (.string [116, 119, 105, 110, 114, 97, 109, 112, 97, 114, 116, 58, 32, 98, 111, 117, 110, 100])])))
  | 3 => ("twinrampart/api.ErrShape", .iface "*errors.errorString" (.ptr (.agg [.lit (.string [116, 119, 105, 110, 114, 97, 109, 112, 97, 114, 116, 58, 32, 115, 104, 97, 112, 101])])))
  | 4 => ("twinrampart/api.ErrNone", .iface "*errors.errorString" (.ptr (.agg [.lit (.string [116, 119, 105, 110, 114, 97, 109, 112, 97, 114, 116, 58, 32, 110, 111, 110, 101])])))
  | 5 => ("twinrampart/api.ErrExist", .iface "*errors.errorString" (.ptr (.agg [.lit (.string [116, 119, 105, 110, 114, 97, 109, 112, 97, 114, 116, 58, 32, 101, 120, 105, 115, 116])])))
  | 6 => ("twinrampart/api.ErrFull", .iface "*errors.errorString" (.ptr (.agg [.lit (.string [116, 119, 105, 110, 114, 97, 109, 112, 97, 114, 116, 58, 32, 102, 117, 108, 108])])))
  | 7 => ("twinrampart/api.ErrOff", .iface "*errors.errorString" (.ptr (.agg [.lit (.string [116, 119, 105, 110, 114, 97, 109, 112, 97, 114, 116, 58, 32, 111, 102, 102])])))
  | 8 => ("twinrampart/api.ErrDeny", .iface "*errors.errorString" (.ptr (.agg [.lit (.string [116, 119, 105, 110, 114, 97, 109, 112, 97, 114, 116, 58, 32, 100, 101, 110, 121])])))
  | 9 => ("twinrampart/api.ErrState", .iface "*errors.errorString" (.ptr (.agg [.lit (.string [116, 119, 105, 110, 114, 97, 109, 112, 97, 114, 116, 58, 32, 115, 116, 97, 116, 101])])))
  | 10 => ("twinrampart/api.ErrOld", .iface "*errors.errorString" (.ptr (.agg [.lit (.string [116, 119, 105, 110, 114, 97, 109, 112, 97, 114, 116, 58, 32, 111, 108, 100])])))
  | _ => ("twinrampart/api.ErrHeld", .iface "*errors.errorString" (.ptr (.agg [.lit (.string [116, 119, 105, 110, 114, 97, 109, 112, 97, 114, 116, 58, 32, 104, 101, 108, 100])])))

theorem errRow_named (k : Nat) : Tryd.prog.globalNamed (errRow (H := Unit) k).1 = some (gErr k) ∧ (Tryd.prog.globals[gErr k]?).map (·.type) = some 29 := by
  unfold errRow gErr
  split <;> exact ⟨by kernel_rfl, by kernel_rfl⟩

theorem errRow_form (k : Nat) : ∃ n text, errRow (H := Unit) k = (n, .iface "*errors.errorString" (.ptr (.agg [.lit (.string text)]))) := by
  unfold errRow
  split <;> exact ⟨_, _, rfl⟩

theorem errStar : "*" ++ "errors.errorString" = "*errors.errorString" := by decide
theorem errStr_only (u : TypeId) (h : Tryd.prog.typeName? 3 u = some "*errors.errorString") : u = 150 :=
  typeName_ptr_named (nm := "errors.errorString") (by rw [errStar]; kernel_rfl) (by kernel_rfl) (by decide) u (by rw [errStar]; exact h)

/-- The errors of the numbers 'ks' are in their variables; those lie below n. -/
structure Errs (w : World) (E : Nat → Addr) (n : Nat) (ks : List Nat) : Prop where
  at_ : ∀ k, ks.contains k = true → w.cell? ⟨gErr k, 0, none⟩ = some (.iface 150 (.pointer (some (E k))))
  lt : ∀ k, ks.contains k = true → gErr k < n
  str : ∀ k, ks.contains k = true → ∃ s : ByteArray, w.cell? (E k) = some (.string s) ∧ (E k).block < n

theorem Errs.ext {w w' : World} {E : Nat → Addr} {n : Nat} {ks : List Nat} {S : Nat → Prop} (h : Errs w E n ks) (hx : Ext S w w') (hS : ∀ b, S b → n ≤ b) : Errs w' E n ks :=
  ⟨fun k hk => hx.cell (h.at_ k hk) (fun hs => by have := hS _ hs; have := h.lt k hk; omega), h.lt, fun k hk => by
    obtain ⟨s, hs, hb⟩ := h.str k hk
    refine ⟨s, ?_, hb⟩
    have hspot := World.cell?_spot hs
    generalize E k = a at hs hb hspot ⊢
    obtain ⟨b, o, sp⟩ := a
    simp only at hspot hb
    subst hspot
    exact hx.cell hs (fun hs' => by have := hS _ hs'; omega)⟩
theorem Errs.sub {w : World} {E : Nat → Addr} {n : Nat} {ks ks' : List Nat} (h : Errs w E n ks) (hs : ks'.all (fun k => ks.contains k) = true) : Errs w E n ks' := by
  have key : ∀ k, ks'.contains k = true → ks.contains k = true := fun k hk => List.all_eq_true.1 hs k (by simpa using hk)
  exact ⟨fun k hk => h.at_ k (key k hk), fun k hk => h.lt k (key k hk), fun k hk => h.str k (key k hk)⟩
theorem Errs.le {w : World} {E : Nat → Addr} {n n' : Nat} {ks : List Nat} (h : Errs w E n ks) (hn : n ≤ n') : Errs w E n' ks :=
  ⟨h.at_, fun k hk => Nat.lt_of_lt_of_le (h.lt k hk) hn, fun k hk => by obtain ⟨s, h1, h2⟩ := h.str k hk; exact ⟨s, h1, Nat.lt_of_lt_of_le h2 hn⟩⟩

theorem Errs.ne {w : World} {E : Nat → Addr} {n : Nat} {ks : List Nat} (h : Errs w E n ks) (k : Nat) (hk : ks.contains k = true) {b : Nat} (hb : n ≤ b) : gErr k ≠ b := by
  have := h.lt k hk
  omega

theorem laidMet.cut {P : Program} {w : World} : ∀ {l : List (String × DataW Unit)} {x : String × DataW Unit}, laidMet P l w → x ∈ l → laidMet P [x] w
  | _ :: _, _, ⟨ps, hv, hnd, hrows⟩, .head _ => by
    rename_i x r
    obtain ⟨n, d⟩ := x
    obtain ⟨g, t, cs, fuel, p, q, h1, h2, h3, h4, hq, rfl⟩ := hv
    exact ⟨_, ⟨g, t, cs, fuel, p, [], h1, h2, h3, h4, rfl, rfl⟩, by rw [List.append_nil]; exact List.Nodup.sublist (List.sublist_append_left _ _) hnd, fun b off hm => hrows b off (by rw [List.append_nil] at hm; exact List.mem_append_left _ hm)⟩
  | _ :: _, _, h, .tail _ hm => laidMet.cut h.tail hm

theorem errs_of {L : List (String × DataW Unit)} {W : World} (ks : List Nat) (hl : laidMetH Tryd.prog L W) (hm : ∀ k ∈ ks, errRow k ∈ L) : ∃ E, Errs W E W.heap.size ks := by
  have h1 := (laidMetH_iff.1 hl).1
  have key : ∀ k, ∃ a : Addr, k ∈ ks → W.cell? ⟨gErr k, 0, none⟩ = some (.iface 150 (.pointer (some a))) ∧ ∃ s : ByteArray, W.cell? a = some (.string s) := by
    intro k
    by_cases hk : k ∈ ks
    · have hk2 := hm k hk
      obtain ⟨hg, ht⟩ := errRow_named k
      obtain ⟨n, text, hf⟩ := errRow_form k
      rw [hf] at hk2 hg
      have h2 : laidMet Tryd.prog [(n, .iface "*errors.errorString" (.ptr (.agg [.lit (.string text)])))] W := laidMet.cut h1 (by
        refine List.mem_filter.2 ⟨hk2, rfl⟩)
      obtain ⟨a, s, hv, hc, _⟩ := laid_sentinel (P := Tryd.prog) h2 hg ht Tryd.underlying29 errStr_only Tryd.underlying150 Tryd.underlying171 rfl rfl Tryd.underlying9 (by kernel_rfl) (by kernel_rfl)
      refine ⟨a, fun _ => ⟨?_, s, hc⟩⟩
      have := World.var?_cell hg hv 0
      simpa using this
    · exact ⟨⟨0, 0, none⟩, fun h => absurd h hk⟩
  refine ⟨fun k => (key k).choose, fun k hk => ((key k).choose_spec (by simpa using hk)).1, fun k hk => ?_, fun k hk => ?_⟩
  · exact cell_lt ((key k).choose_spec (by simpa using hk)).1
  · obtain ⟨_, s, hs⟩ := (key k).choose_spec (by simpa using hk)
    exact ⟨s, hs, cell_lt hs⟩
end Go.Proofs.YtnpfaghfcbbmdaaDoor
