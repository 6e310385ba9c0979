/-
  Texts of this claim, joined: PoolZV, PoolZW, LawS.
-/
import Derived.Test.YtgcbcagaibecbaaGreatDoorSideReadsJ
import Derived.Conc.LeavingOf
import Derived.Shelf.Vars
import Derived.Lay
import Derived.LaidHandle
import Derived.Deep.Slices
set_option linter.unusedSectionVars false
set_option linter.unusedSimpArgs false
set_option linter.unusedVariables false

namespace Go.Proofs.YtgcbcagaibecbaaGreatDoor.Pool
set_option maxRecDepth 20000
open Go Go.Conc Gap Ev Go.RowKit Go.Conc.Lib Go.ChangeShapes Go.WideShapes Go.ChangeAt
local instance : Gap.Leaps := onLeaps

theorem weights_pre {H : Type} {P : Program} {vs : List TypeId} {f : Nat → Bool} : ∀ (ts : List TypeId) (ds : List (DataW H)), (DataW.weightsEach P (ts ++ vs) ds).all f = true → (DataW.weightsEach P ts ds).all f = true
  | [], _, _ => by simp [DataW.weightsEach]
  | t :: ts, [], _ => by simp [DataW.weightsEach]
  | t :: ts, d :: ds, h => by
    simp only [List.cons_append, DataW.weightsEach, List.all_append, Bool.and_eq_true] at h ⊢
    exact ⟨h.1, weights_pre ts ds h.2⟩
theorem law_liftedG {C : Checked} {f : FuncId} {fn : Func} {s : ChangeSpec} {tb : TypeId} (L : List (String × DataW Unit)) (os : Os) (started : os.Started) (H : Type) (enc : TypeId × Value → H)
    (own : ownKnob C.prog.godebug = none) (noInit : C.prog.inits.idxOf? f = none) (hfn : C.prog.funcs[f]? = some fn) (hvars : s.vars = [])
    (hs : ∀ ds : List (DataW H), ds.length = fn.params.toList.length → (s.fn H (ds ++ [])).results = [.lit (.bool true)] ∧ (s.fn H (ds ++ [])).args = ds ∧ (s.fn H (ds ++ [])).vars = [])
    (hres : fn.resultTypes = #[tb]) (hbool : C.prog.underlying tb = some .bool) (hlaid : laidOutB C.prog = true) (hread : (fn.params.toList.all fun t => C.prog.readableRec t && decide (t < C.prog.types.size)) = true)
    (witness : ∃ (w : World) (tape : Tape) (i : Input), w.os = os ∧ (w.forCall tape i).Shaped C.prog ∧ i.vars = [] ∧ Input.okWide C.prog (w.forCall tape i) .any w.heap.size f i ∧
      ((s.pre enc C.prog fn [] false (w.forCall tape i).memory i.args ∧ laidMetH C.prog L (w.forCall tape i).memory) ∧ sizedMet enc C.prog fn (OpenSpec.ofChange s) false (w.forCall tape i).memory i.args) ∧ ({} : Assume).holds C.prog (lone (Frame.enter C.prog f i.args .normal) [] (w.forCall tape i)))
    (walk : ∀ (W : World) (args : List Value) (ds : List (DataW H)) (p : List MemPlace), W.ShapedOpen C.prog → ArgsOk C.prog W fn.params.toList args → DataW.TrodAll enc C.prog W 0 (fun _ => true) true fn.params.toList args ds p →
      (DataW.weightsEach C.prog fn.params.toList ds).all (· ≤ reachBytes) = true → laidMetH C.prog L W → BodyG C.prog f args.toArray (Pool.view (OkB W) (OddB W) W) fun v w' => v = .bool true ∧ Ext No (Pool.view (OkB W) (OddB W) W) w') :
    ReturnsInLeavingWide {} C os f .any (fun w args => (s.pre enc C.prog fn [] false w args ∧ laidMetH C.prog L w) ∧ sizedMet enc C.prog fn (OpenSpec.ofChange s) false w args) (s.post enc C.prog fn false true false false) := by
  refine returnsInLeavingWide_of_good own started witness ?_
  intro w tape i _ hsh _ hok hpre _
  obtain ⟨_, _, _, fn', hfn', _, _, _, _, hval⟩ := hok
  obtain rfl : fn' = fn := Option.some.inj (hfn'.symm.trans hfn)
  obtain ⟨⟨⟨ds, gs, before, hw, _⟩, hx⟩, hz⟩ := hpre
  have hz2 := hz.weights hw
  have hW := DataW.Whole.of_heap (w' := w.forCall tape i) (by rfl) hw
  have hL : laidMetH C.prog L (w.forCall tape i) := hx.of_heap (by rfl)
  generalize w.forCall tape i = W at hval hW hL hsh ⊢
  generalize w.heap.size = base at hval
  generalize i.args = args at hval hW ⊢
  have hW' := hW
  obtain ⟨p, q, hA, hV, rfl, hfz, hnd⟩ := hW
  rw [hvars] at hV
  obtain ⟨rfl, rfl⟩ := trodVars_none hV
  have hok := argsOk_of fn'.params.toList args.toList ds p (fun j t v ht hv => hval j t v (by simpa using ht) (by simpa using hv)) hA
  have hlen : ds.length = fn'.params.toList.length := by
    have : ∀ (ts : List TypeId) (vs : List Value) (ds : List (DataW H)) (ps : List MemPlace), DataW.TrodAll enc C.prog W 0 (fun _ => true) true ts vs ds ps → ds.length = ts.length := by
      intro ts
      induction ts with
      | nil => intro vs ds ps h; cases vs <;> cases ds <;> simp_all [DataW.TrodAll]
      | cons t ts ih =>
        intro vs ds ps h
        obtain ⟨v, vs', d, ds', p, q, rfl, rfl, rfl, h1, h2⟩ := trodAll_cons h
        simp [ih _ _ _ h2]
    exact this _ _ _ _ hA
  have hsz : (DataW.weightsEach C.prog fn'.params.toList ds).all (· ≤ reachBytes) = true := by
    rw [List.append_nil] at hz2
    exact weights_pre _ _ hz2
  have hb := walk W args.toList ds p hsh hok hA hsz hL
  rw [Array.toArray_toList] at hb
  obtain ⟨N, last, o, w', t', g1, g2, g3, g4⟩ := good_run hb noInit
  refine ⟨N, last, o, w', t', g1, g2, g3, g4.mono fun v ⟨hend, hodd⟩ => ChangeSpec.post_blind ?_⟩
  obtain ⟨hv, hext⟩ := end_ext (Q := fun v => v = .bool true) hend hodd
  subst hv
  obtain ⟨e1, e2, e3⟩ := hs ds hlen
  have hlt : ∀ x ∈ p, x.block < W.heap.size := fun x hx => hW'.lt x (by simpa using hx)
  refine ⟨ds, [], p ++ [], [], p, [], hW', ?_, ?_, ?_, hext.below.frame _, fun h => by cases h⟩
  · rw [e1, hres]
    exact trodAll_mk1 (shut_bool hbool true)
  · rw [e2]
    exact trodAll_ext hlaid hext.below _ _ _ _ hread hA hlt
  · rw [hvars, e3]
    rfl
end Go.Proofs.YtgcbcagaibecbaaGreatDoor.Pool

namespace Go.Proofs.YtgcbcagaibecbaaGreatDoor.Pool
set_option maxRecDepth 20000
open Go Go.Conc Gap Ev Go.RowKit Go.Conc.Lib Go.ChangeShapes Go.WideShapes Go.ChangeAt
local instance : Gap.Leaps := onLeaps

theorem weights_all {H : Type} {P : Program} {e : TypeId} {n : Nat} : ∀ (l : List (DataW H)) (d : DataW H), d ∈ l → n ∈ d.weights P e → n ∈ DataW.weightsAll P e l
  | x :: l, d, h, hn => by
    simp only [DataW.weightsAll, List.mem_append]
    rcases List.mem_cons.1 h with rfl | h
    · exact .inl hn
    · exact .inr (weights_all l d h hn)
theorem dec_strU {P : Program} {w : World} {d : Nat} {t : TypeId} (hu : P.underlying t = some .string) : Ev.Dec P w (d + 1) t encT (fun _ => True) := by
  intro cs h
  unfold Shp at h
  rw [hu] at h
  obtain ⟨s, rfl, _⟩ := h
  obtain ⟨l, rfl⟩ := bs_of s
  exact ⟨l, rfl, trivial⟩
theorem strs_short {H : Type} {enc : TypeId × Value → H} {P : Program} {W : World} {t e : TypeId} {a : Option Addr} {n c : Nat} {d : DataW H} {p : List MemPlace} {G : List UInt8 → Prop} {xs : List (List UInt8)} (ht : P.underlying t = some (.slice e)) (he : P.underlying e = some .string) (h1 : P.cellsOf e = 1)
    (h : DataW.Trod enc P W 0 (fun _ => true) true t (.slice a n c) d p) (hw : (d.weights P t).all (· ≤ reachBytes) = true) (hx : Slc W 1 encT G a n xs) : ∀ s ∈ xs, s.length ≤ 140737488351232 := by
  intro s hs
  obtain ⟨k, hk⟩ := List.mem_iff_getElem?.1 hs
  have hkn : k < n := by
    have := (List.getElem?_eq_some_iff.1 hk).1
    rw [hx.len] at this
    exact this
  obtain ⟨fuel, h⟩ := h
  rcases Go.Deep.open_slice1 ht h1 h with ⟨hcs, _⟩ | ⟨a', len, cap, m, n', V, D, Pl, hcs, _, hl, hm, hmm, hd, hi⟩
  · simp [Value.cells] at hcs
    omega
  · simp only [Value.cells, List.cons.injEq, Value.slice.injEq, and_true] at hcs
    obtain ⟨rfl, rfl, rfl⟩ := hcs
    have hkm : k < m := by
      rw [hmm]
      split <;> omega
    obtain ⟨hc, htr⟩ := hi k hkm
    obtain ⟨b, o, hab, _, hcell⟩ := hx.cells k s hk
    obtain rfl := Option.some.inj hab
    have hV : V k = .string (bs s) := by
      have h2 := hcell 0 _ rfl
      have e1 : (⟨b, o, none⟩ : Addr).add k = ⟨b, o + k * 1 + 0, none⟩ := by
        rw [add_none]
        simp
      rw [e1, h2] at hc
      exact (Option.some.inj hc).symm
    rw [hV] at htr
    obtain ⟨s2, e2, e3, _⟩ := DataW.trod_string he htr
    simp only [List.cons.injEq, Value.string.injEq, and_true] at e2
    subst e2
    have hD : D k = .lit (.string (bs s).data.toList) := congrArg Prod.fst e3
    obtain ⟨hd1, _⟩ := Prod.mk.inj hd
    have hin : s.length ∈ d.weights P t := by
      rw [hd1]
      unfold DataW.weights
      rw [ht]
      refine List.mem_cons_of_mem _ (List.mem_append_left _ (weights_all _ (D k) (List.mem_map.2 ⟨k, List.mem_range.2 (by omega), rfl⟩) ?_))
      rw [hD]
      unfold DataW.weights
      have : (bs s).data.toList.length = s.length := by simp [bs]
      rw [this]
      exact List.mem_cons_self ..
    have := List.all_eq_true.1 hw _ hin
    unfold reachBytes at this
    simpa using this
theorem sideReads_walk {H : Type} {enc : TypeId × Value → H} {E : Nat → Addr} (W : World) (args : List Value) (ds : List (DataW H)) (p : List MemPlace) (hE : Errs W E W.heap.size allErrs) (hh : Handle W) (ht : Pow10 W) (hP : Protos W) (hV : NumV W)
    (hA : DataW.TrodAll enc Tryz.prog W 0 (fun _ => true) true [22, 3] args ds p) (hw : (DataW.weightsEach Tryz.prog [22, 3] ds).all (· ≤ reachBytes) = true) (ha : ArgsOk Tryz.prog W [22, 3] args) :
    BodyG Tryz.prog 3 args.toArray (Pool.view (OkB W) (OddB W) W) fun v w' => v = .bool true ∧ Ext No (Pool.view (OkB W) (OddB W) W) w' := by
  obtain ⟨v0, args, rfl, h0, ha⟩ := ha.cons
  obtain ⟨v1, args, rfl, h1, ha⟩ := ha.cons
  obtain rfl := ha.nil
  obtain ⟨wk, rfl, _⟩ := arg_int Tryz.underlying3 h1
  obtain ⟨a, n, c, xs, rfl, hx, _⟩ := arg_slice (d := 1) (sz := 1) (enc := encT) (G := fun _ => True) Tryz.underlying22 (by kernel_rfl) (by decide) (dec_strU Tryz.underlying9) h0
  obtain ⟨v, vs, d, ds', p', q', e1, rfl, _, htr, _⟩ := trodAll_cons hA
  simp only [List.cons.injEq] at e1
  obtain ⟨rfl, _⟩ := e1
  have hw0 : (d.weights Tryz.prog 22).all (· ≤ reachBytes) = true := by
    simp only [DataW.weightsEach, List.all_append, Bool.and_eq_true] at hw
    exact hw.1
  have hst := strs_short Tryz.underlying22 Tryz.underlying9 (by kernel_rfl) htr hw0 hx
  exact sideReads_ok (view_slc hx) hst ⟨hV.syn.elim fun e he => ⟨e, view_cellW he.1, he.2⟩, hV.rng.elim fun e he => ⟨e, view_cellW he.1, he.2⟩⟩ (fun i hi => view_cellW (ht i hi)) (fun i v hv => view_cellW (hP i v hv)) (view_errs hE) (view_cellW hh) wk
end Go.Proofs.YtgcbcagaibecbaaGreatDoor.Pool

namespace Go.Proofs.YtgcbcagaibecbaaGreatDoor.Ev
set_option maxRecDepth 20000
open Go Go.ChangeShapes Go.WideShapes Go.ChangeAt Go.RowKit
variable [Go.Proofs.YtgcbcagaibecbaaGreatDoor.Gap.Leaps]

theorem laidMetH_layVars {P : Program} {w0 w' : World} {L : List (String × DataW Unit)} {fuel : Nat}
    (hh : w'.heap = (w0.layVars P (L.filter fun x => x.2.handleName?.isNone)).heap)
    (hf : w0.layFits P (L.filter fun x => x.2.handleName?.isNone) [] = true)
    (hi : w0.layIfaces P (L.filter fun x => x.2.handleName?.isNone) w' = true)
    (hH : (L.filter fun x => x.2.handleName?.isSome && x.2.funcsIn?.isNone).all (handleAtB P w') = true)
    (hF : funcsRun P w' fuel ((funcsListed L).map (·.1)) = some ((funcsListed L).map (·.2.funcsOut))) : laidMetH P L w' := by
  refine laidMetH_of_parts3 (fuel := fuel) ?_ hH hF
  generalize (L.filter fun x => x.2.handleName?.isNone) = laid at hh hf hi ⊢
  have e1 : (laid.filter fun x => (laid.map (·.1)).contains x.1) = laid := List.filter_eq_self.2 fun x hx => List.contains_iff_mem.2 (List.mem_map.2 ⟨x, hx, rfl⟩)
  have e2 : (laid.filter fun x => !(laid.map (·.1)).contains x.1) = [] := List.filter_eq_nil_iff.2 fun x hx => by rw [List.contains_iff_mem.2 (List.mem_map.2 ⟨x, hx, rfl⟩)]; simp
  exact laidMet_layVars (w0 := w0) (laid.map (·.1)) [] (by rw [e1]; exact hh) (by rw [e1]; exact hf) (by rw [e1]; exact hi) (by rw [e2]; exact LaidIn.none)
end Go.Proofs.YtgcbcagaibecbaaGreatDoor.Ev
namespace Go.Proofs.YtgcbcagaibecbaaGreatDoor
open Go Ev Go.RowKit
variable [Go.Proofs.YtgcbcagaibecbaaGreatDoor.Gap.Leaps]
theorem sent_of {n : String} {text : List UInt8} {L : List (String × DataW Unit)} {W : World} {g : Nat} (hl : laidMetH Tryz.prog L W) (hm : (n, .iface "*errors.errorString" (.ptr (.agg [.lit (.string text)]))) ∈ L)
    (hg : Tryz.prog.globalNamed n = some g) (ht : (Tryz.prog.globals[g]?).map (·.type) = some 26) : ∃ e, W.cell? ⟨g, 0, none⟩ = some e ∧ (e = .nilIface ∨ ∃ t p, e = .iface t p) := by
  obtain ⟨f, hf⟩ : ∃ f : Field, Tryz.prog.underlying 191 = some (.struct #[f]) ∧ f.type = 9 ∧ f.offset = 0 := ⟨_, Tryz.underlying191, rfl, rfl⟩
  obtain ⟨a, h1, _⟩ := sentinel1 (laid_one hl hm rfl) hg ht Tryz.underlying26 errStr_only Tryz.underlying189 hf.1 hf.2.1 hf.2.2 Tryz.underlying9 (by kernel_rfl) (by kernel_rfl)
  exact ⟨_, h1, .inr ⟨_, _, rfl⟩⟩
def synB : List UInt8 := [105, 110, 118, 97, 108, 105, 100, 32, 115, 121, 110, 116, 97, 120]
def rngB : List UInt8 := [118, 97, 108, 117, 101, 32, 111, 117, 116, 32, 111, 102, 32, 114, 97, 110, 103, 101]
theorem numV_of {L : List (String × DataW Unit)} {W : World} (hl : laidMetH Tryz.prog L W) (h1 : ("strconv.ErrSyntax", .iface "*errors.errorString" (.ptr (.agg [.lit (.string synB)]))) ∈ L) (h2 : ("strconv.ErrRange", .iface "*errors.errorString" (.ptr (.agg [.lit (.string rngB)]))) ∈ L) : NumV W :=
  ⟨sent_of hl h1 (by kernel_rfl) (by kernel_rfl), sent_of hl h2 (by kernel_rfl) (by kernel_rfl)⟩
end Go.Proofs.YtgcbcagaibecbaaGreatDoor
