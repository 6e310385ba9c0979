
/-
  The library's numbers as text and strings.Join, in the walk's own words; the tables that the row lists.
-/
import Derived.Test.YtakdekkieobbaaaDoorShelf
import Derived.Test.YtakdekkieobbaaaDoorErr
import Derived.Test.YtakdekkieobbaaaDoorEvN
import Derived.Test.YtakdekkieobbaaaDoorEvO
import Derived.Lib.LaidTab
namespace Go.Proofs.YtakdekkieobbaaaDoor
open Go Ev Go.RowKit Go.Sort

theorem Ev.CallC.of {P : Program} {f : FuncId} {fn : Func} {args : Array Value} {w : World} {k : Value → World → Prop} (hf : P.funcs[f]? = some fn) (hname : (fn.name == "runtime.NumGoroutine") = false) (hb : fn.body.isSome = true) (h : Calls P f args w fun e w' => ∃ v, e = .returned v ∧ k v w') : CallC P f args w k := by
  have hname' : ¬ fn.name = "runtime.NumGoroutine" := by simpa using hname
  obtain ⟨c, hb⟩ := Option.isSome_iff_exists.1 hb
  exact ⟨.inl ⟨by simp [callFunc, program, Sem.run, hf, hname', hb], h⟩⟩
theorem Ev.Ext.of_below {w w' : World} (h : Below w.heap.size w w') : Ext No w w' := ⟨h.os, h.tape, h.output, h.size, fun k hk _ => h.block k hk⟩
theorem ext_grow (w : World) (k : Nat) (os : Array Obj) : Ext No w (grow (w.drewN k) os) := by
  refine ⟨rfl, rfl, rfl, ?_, fun b hb _ => ?_⟩
  · show w.heap.size ≤ (w.heap ++ os).size
    rw [Array.size_append]
    omega
  · show (w.heap ++ os)[b]? = _
    rw [Array.getElem?_append_left hb]

/-! ### The table of powers -/
def Pow10 (w : World) : Prop := Lib.TabIs Tryd.prog w "internal/strconv.uint64pow10" .u64 Lib.pow10Tab
theorem Pow10.no {w w' : World} (h : Pow10 w) (hx : Ext No w w') : Pow10 w' := by
  have hg : Tryd.prog.globalNamed "internal/strconv.uint64pow10" = some 14 := by kernel_rfl
  unfold Pow10 Lib.TabIs at h ⊢
  rw [← h]
  have key : w'.heap[14]? = w.heap[14]? := by
    refine hx.block _ ?_ id
    have h2 := h
    simp only [World.var?, hg, Option.bind_some] at h2
    by_cases hb : 14 < w.heap.size
    · exact hb
    · have hn : w.heap[14]? = none := Array.getElem?_eq_none (by omega)
      rw [hn] at h2
      cases h2
  simp only [World.var?, hg, Option.bind_some, key]
theorem itoa_ok (n : Int) (h0 : -9223372036854775808 ≤ n) (h1 : n ≤ 9223372036854775807) (w : World) (ht : Pow10 w) :
    CallC Tryd.prog 98 #[.int .i64 n] w fun v w' => v = .string (bs (Lib.itoa n)) ∧ Ext No w w' := by
  refine Ev.CallC.of Tryd.func98 (by kernel_rfl) rfl ((Tryd.strconv_Itoa n h0 h1 w ht).mono ?_)
  rintro e w' ⟨rfl, k, os, rfl⟩
  exact ⟨_, rfl, rfl, ext_grow w k os⟩
theorem join_ok (xs : List (List UInt8)) (sep : List UInt8) {b o n c : Nat} (w : World) (hn : xs.length = n) (hc : CellsAt w b o (xs.map fun l => .string (bs l))) (h0 : 0 < n) (hcap : n ≤ c) (hl : (Lib.join xs sep).length ≤ 1000000) (hN : n ≤ 1000000) :
    CallC Tryd.prog 96 #[.slice (some ⟨b, o, none⟩) n c, .string (bs sep)] w fun v w' => v = .string (bs (Lib.join xs sep)) ∧ Ext No w w' := by
  subst hn
  have e1 : ((xs.map bs).map (·.data.toList)) = xs := by
    rw [List.map_map]
    conv => rhs; rw [← List.map_id xs]
    rfl
  have hcell : ∀ (j : Nat) x, (xs.map bs)[j]? = some x → w.cell? ⟨b, o + j, none⟩ = some (.string x) := fun j x hj => by
    refine hc j _ ?_
    rw [List.getElem?_map] at hj ⊢
    obtain ⟨l, hl, rfl⟩ := Option.map_eq_some_iff.1 hj
    rw [hl]
    rfl
  have hb : b < w.heap.size := hc.lt (by simpa using h0)
  have h := Tryd.strings_Join b o c (xs.map bs) (bs sep) w hcell hb (by rw [List.length_map]; omega) (by rw [List.length_map]; exact hcap) (by rw [e1]; exact Nat.le_trans hl (by omega))
  rw [List.length_map] at h
  refine Ev.CallC.of Tryd.func96 (by kernel_rfl) rfl (h.mono ?_)
  rintro e w' ⟨rfl, hb⟩
  refine ⟨_, rfl, ?_, .of_below hb⟩
  rw [e1]
  rfl

/-! ### Out of the row's list -/
theorem laid_one {L : List (String × DataW Unit)} {W : World} {n : String} {d : DataW Unit} (hl : laidMetH Tryd.prog L W) (hm : (n, d) ∈ L) (hd : d.handleName?.isNone = true) : laidMet Tryd.prog [(n, d)] W :=
  laidMet_sub (List.singleton_sublist.2 (List.mem_filter.2 ⟨hm, hd⟩)) (laidMetH_iff.1 hl).1
theorem pow10_of {L : List (String × DataW Unit)} {W : World} (hl : laidMetH Tryd.prog L W) (hm : ("internal/strconv.uint64pow10", Lib.tabData .u64 Lib.pow10Tab) ∈ L) : Pow10 W :=
  Lib.tabIs_of_head (g := 14) (t := 224) (e := 217) (n := 20) (by kernel_rfl) (by kernel_rfl) Tryd.underlying224 Tryd.underlying217 (by kernel_rfl) (by kernel_rfl) (laid_one hl hm rfl)
theorem strs_of_trod {H : Type} {enc : TypeId × Value → H} {P : Program} {w : World} {base : Nat} {sp : Nat → Bool} {held : Bool} {fuel : Nat} {t e : TypeId} {n : Nat} {cs : List Value} {zs : List (List UInt8)} {p : List MemPlace}
    (ht : P.underlying t = some (.array n e)) (he : P.underlying e = some .string) (hce : P.cellsOf e = 1) (hct : P.cellsOf t = n)
    (h : DataW.trod enc P w base sp held fuel t cs = some (.agg (zs.map fun z => .lit (.string z)), p)) : cs = zs.map fun z => Value.string (bs z) := by
  cases fuel with
  | zero => simp [DataW.trod] at h
  | succ fuel =>
    simp only [DataW.trod, ht, hce, hct, Nat.mul_one] at h
    split at h
    · rename_i hl
      obtain ⟨xs, hm, hx⟩ := Option.map_eq_some_iff.1 h
      have hxs : xs.map (·.1) = zs.map fun z => (DataW.lit (.string z) : DataW H) := by
        have := congrArg Prod.fst hx
        simpa using this
      have hxl : xs.length = n := by simpa using Lib.mapM_length hm
      have hzl : zs.length = n := by
        have := congrArg List.length hxs
        simp at this
        omega
      apply List.ext_getElem?
      intro i
      by_cases hi : i < n
      · obtain ⟨b, hb, hf⟩ := Lib.mapM_at hm i i (by simp [hi])
        obtain ⟨z, hc, rfl, _⟩ := DataW.trod_string he hf
        have h1 : cs[i]? = some (.string z) := by
          have := congrArg (·[0]?) hc
          simpa [List.getElem?_take, List.getElem?_drop] using this
        have h2 : (xs.map (·.1))[i]? = some (DataW.lit (.string z.data.toList) : DataW H) := by simp [hb]
        rw [hxs] at h2
        simp only [List.getElem?_map, Option.map_eq_some_iff, DataW.lit.injEq, Lit.string.injEq] at h2
        obtain ⟨z', hz', h3⟩ := h2
        rw [h1, List.getElem?_map, hz']
        show some (Value.string z) = some (Value.string (bs z'))
        rw [h3]
        simp [bs]
      · rw [List.getElem?_eq_none (by omega), List.getElem?_eq_none (by simp; omega)]
    · cases h
/-- The policy's words. -/
def Protos (w : World) : Prop := CellsAt w 12 0 [.string (bs [97, 110, 121]), .string (bs [117, 100, 112]), .string (bs [116, 99, 112])]
theorem Protos.no {w w' : World} (h : Protos w) (hx : Ext No w w') : Protos w' := hx.cells h id
theorem protos_of {L : List (String × DataW Unit)} {W : World} (hl : laidMetH Tryd.prog L W) (hm : ("twinrampart/policy.protos", .agg ([[97, 110, 121], [117, 100, 112], [116, 99, 112]].map fun z => .lit (.string z))) ∈ L) : Protos W := by
  obtain ⟨ps, ⟨g', t', cs, fuel, p, q, hg', ht', hvar, hd, _, _⟩, _⟩ := laid_one hl hm rfl
  have hg : Tryd.prog.globalNamed "twinrampart/policy.protos" = some 12 := by kernel_rfl
  have hty : (Tryd.prog.globals[12]?).map (·.type) = some 179 := by kernel_rfl
  obtain rfl := Option.some.inj (hg.symm.trans hg')
  obtain rfl := Option.some.inj (hty.symm.trans ht')
  have hc := strs_of_trod Tryd.underlying179 Tryd.underlying9 (by kernel_rfl) (by kernel_rfl) hd
  intro i v hv
  have := World.var?_cell hg hvar i
  rw [Nat.zero_add, this, ← Array.getElem?_toList, hc]
  exact hv
end Go.Proofs.YtakdekkieobbaaaDoor
