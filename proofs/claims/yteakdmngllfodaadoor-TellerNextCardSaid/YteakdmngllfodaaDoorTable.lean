
/-
  Package table, walked.
-/
import Derived.Test.YteakdmngllfodaaDoorMirror
import Derived.Test.YteakdmngllfodaaDoorRefMirror
namespace Go.Proofs.YteakdmngllfodaaDoor
open Go Ev

/-! A table: its first port ('life') and its cells. -/
def fitF (pr ia ip fa fp : Int) (f : FlowS) : Bool := decide (f.proto = pr) && (decide (f.ia = ia ∧ f.ip = ip) && decide (f.fa = fa ∧ f.fp = fp))
def fitB (pr po fa fp : Int) (f : FlowS) : Bool := decide (f.proto = pr) && (decide (f.port = po) && decide (f.fa = fa ∧ f.fp = fp))
def there (p : FlowS → Bool) (c : CellS) : Bool := decide (c.f.proto ≠ 0) && p c.f
def MirS.find (T : MirS) (pr ia ip fa fp : Int) : Int := idxI (there (fitF pr ia ip fa fp)) T.cells 0
def MirS.back (T : MirS) (pr po fa fp : Int) : Int := idxI (there (fitB pr po fa fp)) T.cells 0
def atI (k : Int) : Int := if k < 0 then 0 else k

theorem pr_end (a b c d : Int) : (endPr a b = endPr c d) = (a = c ∧ b = d) := by simp [endPr]
theorem eqEnd {a b c d : Int} {k : Value → Prop} (hk : k (.bool (decide (a = c ∧ b = d)))) :
    PureC Tryd.prog (do eqGuard .eql 36 (.tmp 0) (.tmp 0) (.agg #[.int .i64 a, .int .i64 b]) (.agg #[.int .i64 c, .int .i64 d]); Go.binOp .eql 36 (.agg #[.int .i64 a, .int .i64 b]) (.agg #[.int .i64 c, .int .i64 d])) k :=
  eqS (a := endPr a b) (b := endPr c d) (ks := [.int, .int]) (by kernel_rfl) (by kernel_rfl) (by kernel_rfl) rfl rfl (by simpa only [pr_end] using hk)
theorem neEnd {a b c d : Int} {k : Value → Prop} (hk : k (.bool (!decide (a = c ∧ b = d)))) :
    PureC Tryd.prog (do eqGuard .neq 36 (.tmp 0) (.tmp 0) (.agg #[.int .i64 a, .int .i64 b]) (.agg #[.int .i64 c, .int .i64 d]); Go.binOp .neq 36 (.agg #[.int .i64 a, .int .i64 b]) (.agg #[.int .i64 c, .int .i64 d])) k :=
  neS (a := endPr a b) (b := endPr c d) (ks := [.int, .int]) (by kernel_rfl) (by kernel_rfl) (by kernel_rfl) rfl rfl (by simpa only [pr_end] using hk)

section
variable {w : World} {b : Nat} {T : MirS}

theorem find1_ok (f : FlowS) (pr ia ip fa fp : Int) (p q r : Nat) (hp : w.cell? ⟨p, 0, none⟩ = some (.int .i64 pr)) (hq : CellsAt w q 0 [.int .i64 ia, .int .i64 ip]) (hr : CellsAt w r 0 [.int .i64 fa, .int .i64 fp]) :
    CallC Tryd.prog 75 ([Value.agg (encFlow f).toArray] ++ [Value.pointer (some ⟨p, 0, none⟩), .pointer (some ⟨q, 0, none⟩), .pointer (some ⟨r, 0, none⟩)]).toArray w fun v w' => v = .bool (fitF pr ia ip fa fp f) ∧ Ext No w w' := by
  refine fn_intro tabOk Tryd.func75 (by kernel_rfl) rfl Tryd.ntmps75 (Nat.le_of_ble_eq_true rfl) ?_
  have hS := St.start w No
  (conv => whnf)
  refine hS.new (fun b w' hb hS => ?_)
  repeat' ((conv => whnf); first | refine RetC.mk ?_ | refine NzC.mk (by decide) ?_ | refine RngC.mk (by omega) (by omega) ?_ | refine IdxC.mk (by omega) (by omega) ?_ | refine hS.ld 0 rfl rfl ?_ | refine hS.ldr hp id ?_ | refine hS.la 0 rfl (l := [.int .i64 f.ia, .int .i64 f.ip]) rfl rfl ?_ | refine hS.la 0 rfl (l := [.int .i64 f.fa, .int .i64 f.fp]) rfl rfl ?_ | refine hS.lar (l := [.int .i64 ia, .int .i64 ip]) rfl hq id ?_ | refine hS.lar (l := [.int .i64 fa, .int .i64 fp]) rfl hr id ?_ | refine eqEnd ?_ | refine brD (fun _ => ?_) (fun _ => ?_) | refine brND (fun _ => ?_) (fun _ => ?_) | refine brN (fun _ => ?_) (fun _ => ?_) | refine brI (fun _ => ?_) (fun _ => ?_))
  all_goals refine ⟨?_, hS.ext⟩
  all_goals simp_all [fitF]
theorem back1_ok (f : FlowS) (pr po fa fp : Int) (p q r : Nat) (hp : w.cell? ⟨p, 0, none⟩ = some (.int .i64 pr)) (hq : w.cell? ⟨q, 0, none⟩ = some (.int .i64 po)) (hr : CellsAt w r 0 [.int .i64 fa, .int .i64 fp]) :
    CallC Tryd.prog 76 ([Value.agg (encFlow f).toArray] ++ [Value.pointer (some ⟨p, 0, none⟩), .pointer (some ⟨q, 0, none⟩), .pointer (some ⟨r, 0, none⟩)]).toArray w fun v w' => v = .bool (fitB pr po fa fp f) ∧ Ext No w w' := by
  refine fn_intro tabOk Tryd.func76 (by kernel_rfl) rfl Tryd.ntmps76 (Nat.le_of_ble_eq_true rfl) ?_
  have hS := St.start w No
  (conv => whnf)
  refine hS.new (fun b w' hb hS => ?_)
  repeat' ((conv => whnf); first | refine RetC.mk ?_ | refine NzC.mk (by decide) ?_ | refine RngC.mk (by omega) (by omega) ?_ | refine IdxC.mk (by omega) (by omega) ?_ | refine hS.ld 0 rfl rfl ?_ | refine hS.ldr hp id ?_ | refine hS.ldr hq id ?_ | refine hS.la 0 rfl (l := [.int .i64 f.fa, .int .i64 f.fp]) rfl rfl ?_ | refine hS.lar (l := [.int .i64 fa, .int .i64 fp]) rfl hr id ?_ | refine eqEnd ?_ | refine brD (fun _ => ?_) (fun _ => ?_) | refine brND (fun _ => ?_) (fun _ => ?_) | refine brN (fun _ => ?_) (fun _ => ?_) | refine brI (fun _ => ?_) (fun _ => ?_))
  all_goals refine ⟨?_, hS.ext⟩
  all_goals simp_all [fitB]

theorem where1_ok (p : FlowS → Bool) (g bf : Nat) (caps : List Value) (c : CellS) (hf : w.cell? ⟨bf, 0, none⟩ = some (.func (.func g) #[] caps.toArray))
    (hg : ∀ f w', Ext No w w' → CallC Tryd.prog g ([Value.agg (encFlow f).toArray] ++ caps).toArray w' fun v w'' => v = .bool (p f) ∧ Ext No w' w'') :
    CallC Tryd.prog 89 ([Value.agg (encCell c).toArray] ++ [Value.pointer (some ⟨bf, 0, none⟩)]).toArray w fun v w' => v = .bool (there p c) ∧ Ext No w w' := by
  refine fn_intro tabOk Tryd.func89 (by kernel_rfl) rfl Tryd.ntmps89 (Nat.le_of_ble_eq_true rfl) ?_
  have hS := St.start w No
  (conv => whnf)
  refine hS.new (fun b w' hb hS => ?_)
  (conv => whnf)
  refine hS.ld 0 rfl rfl ?_
  (conv => whnf)
  refine brND (fun h1 => ?_) (fun h1 => ?_)
  · (conv => whnf)
    refine hS.ldr hf id ?_
    (conv => whnf)
    refine hS.la 0 rfl (l := encFlow c.f) rfl rfl ?_
    have key := hg c.f _ hS.ext
    have fin : ∀ (K : Value → World → Prop), (∀ w'', Ext No w' w'' → K (.bool (p c.f)) w'') → CallC Tryd.prog g ([Value.agg (encFlow c.f).toArray] ++ caps).toArray w' K := by
      intro K hK
      refine key.mono ?_
      rintro v w' ⟨rfl, hx'⟩
      exact hK w' hx'
    clear key
    have e : there p c = p c.f := by simp [there, h1]
    rw [e]
    cases caps
    all_goals
      (conv => whnf)
      refine fin _ ?_
      intro w'' hx'
      replace hS := hS.no hx'
      repeat' ((conv => whnf); first | refine RetC.mk ?_ | refine NzC.mk (by decide) ?_ | refine RngC.mk (by omega) (by omega) ?_ | refine IdxC.mk (by omega) (by omega) ?_ | refine brD (fun _ => ?_) (fun _ => ?_) | refine brND (fun _ => ?_) (fun _ => ?_) | refine brN (fun _ => ?_) (fun _ => ?_) | refine brI (fun _ => ?_) (fun _ => ?_))
      exact ⟨rfl, hS.ext⟩
  · repeat' ((conv => whnf); first | refine RetC.mk ?_ | refine NzC.mk (by decide) ?_ | refine RngC.mk (by omega) (by omega) ?_ | refine IdxC.mk (by omega) (by omega) ?_ | refine brD (fun _ => ?_) (fun _ => ?_) | refine brND (fun _ => ?_) (fun _ => ?_) | refine brN (fun _ => ?_) (fun _ => ?_) | refine brI (fun _ => ?_) (fun _ => ?_))
    exact ⟨by simp [there, h1], hS.ext⟩

theorem tab_slc (hb : Blk w b 100 (encM T)) (hm : T.cells.length = 32) : Slc w 10 encCell (fun _ => True) (some ⟨b, 1, none⟩) 32 T.cells :=
  Slc.of_blk codCell hb hm (by decide) (fun _ _ => trivial) (by simp only [encM, List.drop_succ_cons, List.drop_zero]; exact flat_take _)

theorem where_ok (p : FlowS → Bool) (g : Nat) (caps : List Value) (hb : Blk w b 100 (encM T)) (hm : T.cells.length = 32)
    (hg : ∀ f w', Ext No w w' → CallC Tryd.prog g ([Value.agg (encFlow f).toArray] ++ caps).toArray w' fun v w'' => v = .bool (p f) ∧ Ext No w' w'') :
    CallC Tryd.prog 74 #[.pointer (some ⟨b, 0, none⟩), .func (.func g) #[] caps.toArray] w fun v w' => v = .int .i64 (idxI (there p) T.cells 0) ∧ Ext No w w' := by
  refine fn_intro tabOk Tryd.func74 (by kernel_rfl) rfl Tryd.ntmps74 (Nat.le_of_ble_eq_true rfl) ?_
  have hS := St.start w No
  (conv => whnf)
  refine hS.new (fun bf w' hbf hS => ?_)
  (conv => whnf)
  refine (indexFunc_ok (there p) _ [Value.pointer (some ⟨bf, 0, none⟩)] ((tab_slc hb hm).no hS.ext) (fun x _ _ w2 hx2 => where1_ok p g bf caps x (hx2.cell ((hS.blk 0 rfl).cell 0) id) fun f w3 hx3 => hg f w3 ((hS.ext.trans hx2).trans hx3))).mono ?_
  rintro v w2 ⟨rfl, hx⟩
  replace hS := hS.no hx
  repeat' ((conv => whnf); first | refine RetC.mk ?_ | refine NzC.mk (by decide) ?_ | refine RngC.mk (by omega) (by omega) ?_ | refine IdxC.mk (by omega) (by omega) ?_ | refine brD (fun _ => ?_) (fun _ => ?_) | refine brND (fun _ => ?_) (fun _ => ?_) | refine brN (fun _ => ?_) (fun _ => ?_) | refine brI (fun _ => ?_) (fun _ => ?_))
  exact ⟨rfl, hS.ext⟩

theorem found_ok (k : Int) (w : World) : CallC Tryd.prog 73 #[.int .i64 k] w fun v w' => v = .tuple #[.int .i64 (atI k), .bool (decide (0 ≤ k))] ∧ w = w' := by
  refine fn_intro tabOk Tryd.func73 (by kernel_rfl) rfl Tryd.ntmps73 (Nat.le_of_ble_eq_true rfl) ?_
  repeat' ((conv => whnf); first | refine RetC.mk ?_ | refine NzC.mk (by decide) ?_ | refine RngC.mk (by omega) (by omega) ?_ | refine IdxC.mk (by omega) (by omega) ?_ | refine brD (fun _ => ?_) (fun _ => ?_) | refine brND (fun _ => ?_) (fun _ => ?_) | refine brN (fun _ => ?_) (fun _ => ?_) | refine brI (fun _ => ?_) (fun _ => ?_))
  all_goals refine ⟨?_, rfl⟩
  all_goals unfold atI
  all_goals ((repeat' split) <;> first | rfl | (exfalso; omega) | (simp_all [over, cellsL]; done) | (simp_all [over, cellsL]; omega) | trace_state)

theorem tfind_ok (pr ia ip fa fp : Int) (hb : Blk w b 100 (encM T)) (hm : T.cells.length = 32) :
    CallC Tryd.prog 37 #[.pointer (some ⟨b, 0, none⟩), .int .i64 pr, .agg #[.int .i64 ia, .int .i64 ip], .agg #[.int .i64 fa, .int .i64 fp]] w fun v w' => v = .tuple #[.int .i64 (atI (T.find pr ia ip fa fp)), .bool (decide (0 ≤ T.find pr ia ip fa fp))] ∧ Ext No w w' := by
  refine fn_intro tabOk Tryd.func37 (by kernel_rfl) rfl Tryd.ntmps37 (Nat.le_of_ble_eq_true rfl) ?_
  have hS := St.start w No
  (conv => whnf)
  refine hS.new (fun p w' _ hS => ?_)
  (conv => whnf)
  refine hS.new (fun q w' _ hS => ?_)
  (conv => whnf)
  refine hS.new (fun r w' _ hS => ?_)
  (conv => whnf)
  refine (where_ok (fitF pr ia ip fa fp) _ [Value.pointer (some ⟨p, 0, none⟩), .pointer (some ⟨q, 0, none⟩), .pointer (some ⟨r, 0, none⟩)] (hS.ext.blk hb id) hm (fun f w2 hx2 => find1_ok f pr ia ip fa fp p q r (hx2.cell ((hS.blk 0 rfl).cell 0) id) (hx2.cells ((hS.blk 1 rfl).cells rfl) id) (hx2.cells ((hS.blk 2 rfl).cells rfl) id))).mono ?_
  rintro v w2 ⟨rfl, hx⟩
  replace hS := hS.no hx
  (conv => whnf)
  refine (found_ok _ _).mono ?_
  rintro v w3 ⟨rfl, rfl⟩
  repeat' ((conv => whnf); first | refine RetC.mk ?_ | refine NzC.mk (by decide) ?_ | refine RngC.mk (by omega) (by omega) ?_ | refine IdxC.mk (by omega) (by omega) ?_ | refine brD (fun _ => ?_) (fun _ => ?_) | refine brND (fun _ => ?_) (fun _ => ?_) | refine brN (fun _ => ?_) (fun _ => ?_) | refine brI (fun _ => ?_) (fun _ => ?_))
  exact ⟨rfl, hS.ext⟩
theorem tback_ok (pr po fa fp : Int) (hb : Blk w b 100 (encM T)) (hm : T.cells.length = 32) :
    CallC Tryd.prog 38 #[.pointer (some ⟨b, 0, none⟩), .int .i64 pr, .int .i64 po, .agg #[.int .i64 fa, .int .i64 fp]] w fun v w' => v = .tuple #[.int .i64 (atI (T.back pr po fa fp)), .bool (decide (0 ≤ T.back pr po fa fp))] ∧ Ext No w w' := by
  refine fn_intro tabOk Tryd.func38 (by kernel_rfl) rfl Tryd.ntmps38 (Nat.le_of_ble_eq_true rfl) ?_
  have hS := St.start w No
  (conv => whnf)
  refine hS.new (fun p w' _ hS => ?_)
  (conv => whnf)
  refine hS.new (fun q w' _ hS => ?_)
  (conv => whnf)
  refine hS.new (fun r w' _ hS => ?_)
  (conv => whnf)
  refine (where_ok (fitB pr po fa fp) _ [Value.pointer (some ⟨p, 0, none⟩), .pointer (some ⟨q, 0, none⟩), .pointer (some ⟨r, 0, none⟩)] (hS.ext.blk hb id) hm (fun f w2 hx2 => back1_ok f pr po fa fp p q r (hx2.cell ((hS.blk 0 rfl).cell 0) id) (hx2.cell ((hS.blk 1 rfl).cell 0) id) (hx2.cells ((hS.blk 2 rfl).cells rfl) id))).mono ?_
  rintro v w2 ⟨rfl, hx⟩
  replace hS := hS.no hx
  (conv => whnf)
  refine (found_ok _ _).mono ?_
  rintro v w3 ⟨rfl, rfl⟩
  repeat' ((conv => whnf); first | refine RetC.mk ?_ | refine NzC.mk (by decide) ?_ | refine RngC.mk (by omega) (by omega) ?_ | refine IdxC.mk (by omega) (by omega) ?_ | refine brD (fun _ => ?_) (fun _ => ?_) | refine brND (fun _ => ?_) (fun _ => ?_) | refine brN (fun _ => ?_) (fun _ => ?_) | refine brI (fun _ => ?_) (fun _ => ?_))
  exact ⟨rfl, hS.ext⟩

end

/-! ### Changes -/
def proto0 (c : CellS) : Bool := decide (c.f.proto = 0)
def setF (l : List CellS) (k : Nat) (f : FlowS) : List CellS := match l[k]? with
  | some c => l.set k ⟨c.slot, c.ver + 1, f⟩
  | none => l
theorem setF_at {l : List CellS} {k : Nat} {c : CellS} (h : l[k]? = some c) (f : FlowS) : setF l k f = l.set k ⟨c.slot, c.ver + 1, f⟩ := by
  unfold setF
  rw [h]
theorem setF_len (l : List CellS) (k : Nat) (f : FlowS) : (setF l k f).length = l.length := by
  unfold setF
  split
  · exact List.length_set
  · rfl
def MirS.lay (T : MirS) (f : FlowS) : (Int × Nat) × MirS :=
  if idxI proto0 T.cells 0 < 0 then ((0, 6), T) else ((idxI proto0 T.cells 0, 0), ⟨T.life, setF T.cells (idxI proto0 T.cells 0).toNat f⟩)
def portF (T : MirS) (pr fa fp : Int) : Nat → Nat → Option Nat
  | 0, _ => none
  | n + 1, i => if T.back pr (T.life + i) fa fp < 0 then some i else portF T pr fa fp n (i + 1)
def MirS.add (T : MirS) (pr ia ip fa fp st un : Int) : (Int × Nat) × MirS :=
  if 0 ≤ T.find pr ia ip fa fp then ((0, 5), T) else match portF T pr fa fp 24 0 with
    | some i => T.lay ⟨pr, ia, ip, fa, fp, T.life + i, st, un⟩
    | none => ((0, 6), T)
def MirS.put (T : MirS) (f : FlowS) : (Int × Nat) × MirS :=
  if 0 ≤ T.find f.proto f.ia f.ip f.fa f.fp ∨ 0 ≤ T.back f.proto f.port f.fa f.fp then ((0, 5), T) else T.lay f
def MirS.flowErr (T : MirS) (k : Int) : Nat := if k < 0 ∨ 32 ≤ k then 2 else match T.cells[k.toNat]? with
  | some c => if c.f.proto = 0 then 4 else 0
  | none => 2
def flowAt (T : MirS) (k : Int) : FlowS := match T.cells[k.toNat]? with
  | some c => c.f
  | none => noFlow
def MirS.setS (T : MirS) (k st un : Int) : Nat × MirS :=
  if T.flowErr k ≠ 0 then (T.flowErr k, T) else (0, ⟨T.life, setF T.cells k.toNat { flowAt T k with state := st, til := un }⟩)
def MirS.drop (T : MirS) (k : Int) : Nat × MirS :=
  if T.flowErr k ≠ 0 then (T.flowErr k, T) else (0, ⟨T.life, setF T.cells k.toNat noFlow⟩)

theorem idxI_bound {α : Type} (p : α → Bool) : ∀ (xs : List α) (k : Nat), idxI p xs k = -1 ∨ ((k : Int) ≤ idxI p xs k ∧ idxI p xs k < k + xs.length)
  | [], k => .inl rfl
  | x :: xs, k => by
    unfold idxI
    cases p x
    · rcases idxI_bound p xs (k + 1) with h | h
      · exact .inl h
      · right
        simp only [List.length_cons]
        omega
    · right
      simp only [List.length_cons]
      omega
/-- All versions may still rise. -/
def VerOk (T : MirS) : Prop := ∀ c ∈ T.cells, 0 ≤ c.ver ∧ c.ver < 9223372036854775807

section
variable {w : World} {b : Nat} {T : MirS}
theorem slot_bad {E : Nat → Addr} {n : Nat} (k : Int) (hE : Errs w E n [2]) (hk : k < 0 ∨ 32 ≤ k) :
    CallC Tryd.prog 77 #[.pointer (some ⟨b, 0, none⟩), .int .i64 k] w fun v w' => v = .tuple #[.pointer none, errV E 2] ∧ Ext No w w' := by
  refine fn_intro tabOk Tryd.func77 (by kernel_rfl) rfl Tryd.ntmps77 (Nat.le_of_ble_eq_true rfl) ?_
  have hS := St.start w No
  repeat' ((conv => whnf); first | refine RetC.mk ?_ | refine NzC.mk (by decide) ?_ | refine RngC.mk (by omega) (by omega) ?_ | refine IdxC.mk (by omega) (by omega) ?_ | refine hS.ldr (hE.at_ 2 rfl) id ?_ | refine hS.ldrF (hE.at_ 2 rfl) id id ?_ | (refine drawL tabOk mixed [] No [0, 1, 2] rfl (by kernel_rfl) ?_; rintro w1 rfl; replace hS := hS.drew) | refine brD (fun _ => ?_) (fun _ => ?_) | refine brND (fun _ => ?_) (fun _ => ?_) | refine brN (fun _ => ?_) (fun _ => ?_) | refine brI (fun _ => ?_) (fun _ => ?_))
  all_goals first | (exfalso; omega) | exact ⟨rfl, hS.ext⟩
theorem slot_ok (k : Int) (h0 : 0 ≤ k) (h1 : k < 32) :
    CallC Tryd.prog 77 #[.pointer (some ⟨b, 0, none⟩), .int .i64 k] w fun v w' => v = .tuple #[.pointer (some ⟨b, 0 + 1 + k.toNat * 10, none⟩), .nilIface] ∧ w = w' := by
  refine fn_intro tabOk Tryd.func77 (by kernel_rfl) rfl Tryd.ntmps77 (Nat.le_of_ble_eq_true rfl) ?_
  repeat' ((conv => whnf); first | refine RetC.mk ?_ | refine IdxC.mk (by omega) (by omega) ?_ | refine brD (fun h => absurd h (by omega)) (fun _ => ?_))
  exact ⟨rfl, rfl⟩

theorem lay1_ok (c : CellS) (w : World) : CallC Tryd.prog 86 ([Value.agg (encCell c).toArray] ++ []).toArray w fun v w' => v = .bool (proto0 c) ∧ Ext No w w' := by
  refine fn_intro tabOk Tryd.func86 (by kernel_rfl) rfl Tryd.ntmps86 (Nat.le_of_ble_eq_true rfl) ?_
  have hS := St.start w No
  (conv => whnf)
  refine hS.new (fun b w' hb hS => ?_)
  repeat' ((conv => whnf); first | refine RetC.mk ?_ | refine NzC.mk (by decide) ?_ | refine RngC.mk (by omega) (by omega) ?_ | refine IdxC.mk (by omega) (by omega) ?_ | refine hS.ld 0 rfl rfl ?_ | refine brD (fun _ => ?_) (fun _ => ?_) | refine brND (fun _ => ?_) (fun _ => ?_) | refine brN (fun _ => ?_) (fun _ => ?_) | refine brI (fun _ => ?_) (fun _ => ?_))
  exact ⟨rfl, hS.ext⟩

theorem lay_ok {E : Nat → Addr} {n : Nat} (f : FlowS) (hb : Blk w b 100 (encM T)) (hm : T.cells.length = 32) (hv : VerOk T) (hE : Errs w E n [6]) (hq : n ≤ b) :
    CallC Tryd.prog 61 #[.pointer (some ⟨b, 0, none⟩), .agg (encFlow f).toArray] w fun v w' => v = .tuple #[.int .i64 (T.lay f).1.1, errV E (T.lay f).1.2] ∧ Ext (· = b) w w' ∧ Blk w' b 100 (encM (T.lay f).2) := by
  have hbw := hb.lt
  refine fn_intro tabOk Tryd.func61 (by kernel_rfl) rfl Tryd.ntmps61 (Nat.le_of_ble_eq_true rfl) ?_
  have hS := (St.start w (· = b)).add (blk_local b _ _) hb (by simp [blk]; exact hb.lt) (by simp)
  (conv => whnf)
  refine hS.new (fun bf w' hbf hS => ?_)
  (conv => whnf)
  refine (indexFunc_ok proto0 _ [] (tab_slc (hS.blk 0 rfl) hm) (fun x _ _ w2 _ => lay1_ok x w2)).mono ?_
  rintro v w2 ⟨rfl, hx⟩
  replace hS := hS.no hx
  clear hx
  have hI := idxI_bound proto0 T.cells 0
  unfold MirS.lay
  generalize idxI proto0 T.cells 0 = k at hI
  (conv => whnf)
  refine brD (fun h1 => ?_) (fun h1 => ?_)
  · rw [if_pos h1]
    repeat' ((conv => whnf); first | refine RetC.mk ?_ | refine NzC.mk (by decide) ?_ | refine RngC.mk (by omega) (by omega) ?_ | refine IdxC.mk (by omega) (by omega) ?_ | refine hS.ldr (hE.at_ 6 rfl) (hE.ne 6 rfl hq) ?_ | refine hS.ldrF (hE.at_ 6 rfl) (hE.ne 6 rfl hq) id ?_ | (refine drawS tabOk mixed [] No [0, 1, 2] (by kernel_rfl) ?_; rintro w1 rfl; replace hS := hS.drew) | refine brD (fun _ => ?_) (fun _ => ?_) | refine brND (fun _ => ?_) (fun _ => ?_) | refine brN (fun _ => ?_) (fun _ => ?_) | refine brI (fun _ => ?_) (fun _ => ?_))
    exact ⟨rfl, hS.ext, hS.blk 0 rfl⟩
  · rw [if_neg h1]
    have hk : 0 ≤ k ∧ k < 32 := by omega
    obtain ⟨c, hc⟩ : ∃ c, T.cells[k.toNat]? = some c := ⟨_, List.getElem?_eq_getElem (by omega)⟩
    have hbb : bf ≠ b := by omega
    have hcv := hv c (List.mem_of_getElem? hc)
    (conv => whnf)
    (refine drawS tabOk mixed [] ((· = b)) [0, 1, 2, 3, 4, 5, 6, 7] (by kernel_rfl) ?_; rintro w1 rfl; replace hS := hS.drew)
    repeat' ((conv => whnf); first | refine IdxC.mk (by omega) (by omega) ?_ | refine hS.laF 1 rfl (l := encFlow f) rfl rfl hbb ?_)
    refine hS.stX 0 rfl (by rw [encM_len hm]; simp [cellsL, encFlow]; omega) rfl (fun w' hx' hS => ?_)
    refine KeepC.mk hx' ?_
    have ho : over (encM T) (0 + 1 + k.toNat * 10 + 2) (cellsL (.agg (encFlow f).toArray)) = encM ⟨T.life, T.cells.set k.toNat ⟨c.slot, c.ver, f⟩⟩ := by
      rw [mir_over (k := k.toNat) (j := 2) (c' := ⟨c.slot, c.ver, f⟩) hc (by simp [cellsL, encFlow]) rfl (by simp <;> omega)]
    replace hS : St w (· = b) w' [blk b 100 (encM ⟨T.life, T.cells.set k.toNat ⟨c.slot, c.ver, f⟩⟩), blk bf 38 (encFlow f)] := by rw [← ho]; exact hS
    have hc2 : (T.cells.set k.toNat ⟨c.slot, c.ver, f⟩)[k.toNat]? = some ⟨c.slot, c.ver, f⟩ := List.getElem?_set_self (by omega)
    clear ho hx'
    (conv => whnf)
    (refine drawS tabOk mixed [6] (· = b) [0, 1, 2, 3, 4, 5, 8, 9, 6, 7, 10, 11, 12] (by kernel_rfl) ?_; rintro w1 rfl; replace hS := hS.drew)
    repeat' ((conv => whnf); first | refine IdxC.mk (by omega) (by omega) ?_ | (refine hS.ld 0 rfl (mir_cell (k := k.toNat) (j := 1) hc2 rfl (by simp <;> omega)) ?_; refine KeepC.mk (Ext.refl _ _) ?_))
    refine RngC.mk (by dsimp only; omega) (by dsimp only; omega) ?_
    repeat' ((conv => whnf); first | refine IdxC.mk (by omega) (by omega) ?_)
    refine hS.stX 0 rfl (by rw [encM_len (by simpa using hm)]; simp [cellsL]; omega) rfl (fun w' hx' hS => ?_)
    refine KeepC.mk hx' ?_
    have ho : over (encM ⟨T.life, T.cells.set k.toNat ⟨c.slot, c.ver, f⟩⟩) (0 + 1 + k.toNat * 10 + 1) [.int .i64 (c.ver + 1)] = encM ⟨T.life, setF T.cells k.toNat f⟩ := by
      rw [mir_over (k := k.toNat) (j := 1) (c' := ⟨c.slot, c.ver + 1, f⟩) hc2 (by simp) rfl (by simp <;> omega), setF_at hc, List.set_set]
    replace hS : St w (· = b) w' [blk b 100 (encM ⟨T.life, setF T.cells k.toNat f⟩), blk bf 38 (encFlow f)] := by rw [← ho]; exact hS
    repeat' ((conv => whnf); first | refine RetC.mk ?_ | refine NzC.mk (by decide) ?_ | refine RngC.mk (by omega) (by omega) ?_ | refine IdxC.mk (by omega) (by omega) ?_ | refine brD (fun _ => ?_) (fun _ => ?_) | refine brND (fun _ => ?_) (fun _ => ?_) | refine brN (fun _ => ?_) (fun _ => ?_) | refine brI (fun _ => ?_) (fun _ => ?_))
    exact ⟨rfl, hS.ext, hS.blk 0 rfl⟩

theorem errs_upd {E : Nat → Addr} {n b : Nat} {ks : List Nat} {w w' : World} (hE : Errs w E n ks) (hx : Ext (· = b) w w') (hq : n ≤ b) : Errs w' E n ks := hE.ext hx fun c hc => by subst hc; exact hq

theorem tadd_ok {E : Nat → Addr} {n : Nat} (pr ia ip fa fp st un : Int) (hb : Blk w b 100 (encM T)) (hm : T.cells.length = 32) (hv : VerOk T) (hl : 0 ≤ T.life ∧ T.life ≤ 100000) (hE : Errs w E n [5, 6]) (hq : n ≤ b) :
    CallC Tryd.prog 14 #[.pointer (some ⟨b, 0, none⟩), .int .i64 pr, .agg #[.int .i64 ia, .int .i64 ip], .agg #[.int .i64 fa, .int .i64 fp], .int .i64 st, .int .i64 un] w fun v w' => v = .tuple #[.int .i64 (T.add pr ia ip fa fp st un).1.1, errV E (T.add pr ia ip fa fp st un).1.2] ∧ Ext (· = b) w w' ∧ Blk w' b 100 (encM (T.add pr ia ip fa fp st un).2) := by
  have hbw := hb.lt
  unfold MirS.add
  refine fn_intro tabOk Tryd.func14 (by kernel_rfl) rfl Tryd.ntmps14 (Nat.le_of_ble_eq_true rfl) ?_
  have hS := (St.start w (· = b)).add (blk_local b _ _) hb (by simp [blk]; exact hb.lt) (by simp)
  (conv => whnf)
  refine hS.new (fun b8 w' hb8 hS => ?_)
  (conv => whnf)
  refine hS.new (fun b9 w' hb9 hS => ?_)
  (conv => whnf)
  refine hS.la 1 rfl (l := [.int .i64 ia, .int .i64 ip]) rfl rfl ?_
  (conv => whnf)
  refine hS.la 2 rfl (l := [.int .i64 fa, .int .i64 fp]) rfl rfl ?_
  (conv => whnf)
  refine (tfind_ok pr ia ip fa fp (hS.blk 0 rfl) hm).mono ?_
  rintro v w2 ⟨rfl, hx⟩
  replace hS := hS.no hx
  clear hx
  generalize T.find pr ia ip fa fp = k
  (conv => whnf)
  refine brD (fun h1 => ?_) (fun h1 => ?_)
  · rw [if_pos h1]
    repeat' ((conv => whnf); first | refine RetC.mk ?_ | refine NzC.mk (by decide) ?_ | refine RngC.mk (by omega) (by omega) ?_ | refine IdxC.mk (by omega) (by omega) ?_ | refine hS.ldr (hE.at_ 5 rfl) (hE.ne 5 rfl hq) ?_ | refine hS.ldrF (hE.at_ 5 rfl) (hE.ne 5 rfl hq) id ?_ | (refine drawS tabOk mixed [] No [0, 1, 2] (by kernel_rfl) ?_; rintro w1 rfl; replace hS := hS.drew) | refine brD (fun _ => ?_) (fun _ => ?_) | refine brND (fun _ => ?_) (fun _ => ?_) | refine brN (fun _ => ?_) (fun _ => ?_) | refine brI (fun _ => ?_) (fun _ => ?_))
    exact ⟨rfl, hS.ext, hS.blk 0 rfl⟩
  rw [if_neg h1]
  generalize hPP : portF T pr fa fp 24 0 = PP
  (conv => whnf)
  refine hS.ld 0 rfl rfl ?_
  (conv => whnf)
  refine loopR tabOk (fun σ w' q => ∃ i : Nat, σ = [(16, .int .i64 (T.life + i)), (9, .pointer (some ⟨b9, 0, none⟩)), (8, .pointer (some ⟨b8, 0, none⟩)), (5, .int .i64 un), (4, .int .i64 st), (1, .int .i64 pr), (0, .pointer (some ⟨b, 0, none⟩))] ∧ q = 24 - i ∧ i ≤ 24 ∧
      St w (· = b) w' [blk b 100 (encM T), blk b8 36 [.int .i64 ia, .int .i64 ip], blk b9 36 [.int .i64 fa, .int .i64 fp]] ∧ PP = portF T pr fa fp (24 - i) i)
    (σ' := [(16, .int .i64 (T.life)), (9, .pointer (some ⟨b9, 0, none⟩)), (8, .pointer (some ⟨b8, 0, none⟩)), (5, .int .i64 un), (4, .int .i64 st), (1, .int .i64 pr), (0, .pointer (some ⟨b, 0, none⟩))]) (n := 24) ⟨rfl, rfl, rfl, rfl, rfl, rfl, rfl, trivial⟩ ⟨0, by rw [show T.life + ((0 : Nat) : Int) = T.life by simp], rfl, Nat.zero_le _, hS, hPP.symm⟩ ?_
  clear hS hPP
  rintro _ w1 q ⟨i, rfl, rfl, hi, hS, hp⟩
  (conv => whnf)
  refine hS.ld 0 rfl rfl ?_
  (conv => whnf)
  refine RngC.mk (by omega) (by omega) ?_
  (conv => whnf)
  refine brD (fun h3 => ?_) (fun h3 => ?_)
  · have hi2 : 24 - i = (24 - (i + 1)) + 1 := by omega
    rw [hi2] at hp
    unfold portF at hp
    (conv => whnf)
    refine hS.la 2 rfl (l := [.int .i64 fa, .int .i64 fp]) rfl rfl ?_
    (conv => whnf)
    refine (tback_ok pr (T.life + i) fa fp (hS.blk 0 rfl) hm).mono ?_
    rintro v w2 ⟨rfl, hx⟩
    replace hS := hS.no hx
    clear hx
    generalize T.back pr (T.life + i) fa fp = j at hp
    (conv => whnf)
    refine brND (fun h4 => ?_) (fun h4 => ?_)
    · rw [if_pos (by omega)] at hp
      subst hp
      (conv => whnf)
      refine hS.la 1 rfl (l := [.int .i64 ia, .int .i64 ip]) rfl rfl ?_
      (conv => whnf)
      refine hS.la 2 rfl (l := [.int .i64 fa, .int .i64 fp]) rfl rfl ?_
      (conv => whnf)
      refine (lay_ok ⟨pr, ia, ip, fa, fp, T.life + i, st, un⟩ (hS.blk 0 rfl) hm hv ((hE.sub rfl).ext hS.ext fun c hc => by subst hc; exact hq) hq).mono ?_
      rintro v w' ⟨rfl, hx, hB⟩
      replace hS := hS.upd 0 rfl hx (fun c hc => by subst hc; exact List.mem_singleton.2 rfl) (blk_local _ _ _) hB (fun c hc => .inl hc)
      repeat' ((conv => whnf); first | refine RetC.mk ?_ | refine NzC.mk (by decide) ?_ | refine RngC.mk (by omega) (by omega) ?_ | refine IdxC.mk (by omega) (by omega) ?_ | refine brD (fun _ => ?_) (fun _ => ?_) | refine brND (fun _ => ?_) (fun _ => ?_) | refine brN (fun _ => ?_) (fun _ => ?_) | refine brI (fun _ => ?_) (fun _ => ?_))
      exact ⟨rfl, hS.ext, hS.blk 0 rfl⟩
    · rw [if_neg (by omega)] at hp
      (conv => whnf)
      refine RngC.mk (by omega) (by omega) ?_
      (conv => whnf)
      refine LoopE.mk ⟨_, [(16, .int .i64 (T.life + ((i + 1 : Nat) : Int))), (9, _), (8, _), (5, _), (4, _), (1, _), (0, _)], ?_, ⟨by rw [show T.life + ((i + 1 : Nat) : Int) = T.life + i + 1 by omega]; rfl, rfl, rfl, rfl, rfl, rfl, rfl, trivial⟩, ⟨i + 1, rfl, rfl, by omega, hS, hp⟩⟩
      omega
  · obtain rfl : i = 24 := by omega
    rw [show PP = none from hp]
    repeat' ((conv => whnf); first | refine RetC.mk ?_ | refine NzC.mk (by decide) ?_ | refine RngC.mk (by omega) (by omega) ?_ | refine IdxC.mk (by omega) (by omega) ?_ | refine hS.ldr (hE.at_ 6 rfl) (hE.ne 6 rfl hq) ?_ | refine hS.ldrF (hE.at_ 6 rfl) (hE.ne 6 rfl hq) id ?_ | (refine drawS tabOk mixed [] No [0, 1, 2] (by kernel_rfl) ?_; rintro w1 rfl; replace hS := hS.drew) | refine brD (fun _ => ?_) (fun _ => ?_) | refine brND (fun _ => ?_) (fun _ => ?_) | refine brN (fun _ => ?_) (fun _ => ?_) | refine brI (fun _ => ?_) (fun _ => ?_))
    exact ⟨rfl, hS.ext, hS.blk 0 rfl⟩

theorem tput_ok {E : Nat → Addr} {n : Nat} (f : FlowS) (hb : Blk w b 100 (encM T)) (hm : T.cells.length = 32) (hv : VerOk T) (hE : Errs w E n [5, 6]) (hq : n ≤ b) :
    CallC Tryd.prog 32 #[.pointer (some ⟨b, 0, none⟩), .agg (encFlow f).toArray] w fun v w' => v = .tuple #[.int .i64 (T.put f).1.1, errV E (T.put f).1.2] ∧ Ext (· = b) w w' ∧ Blk w' b 100 (encM (T.put f).2) := by
  have hbw := hb.lt
  unfold MirS.put
  refine fn_intro tabOk Tryd.func32 (by kernel_rfl) rfl Tryd.ntmps32 (Nat.le_of_ble_eq_true rfl) ?_
  have hS := (St.start w (· = b)).add (blk_local b _ _) hb (by simp [blk]; exact hb.lt) (by simp)
  (conv => whnf)
  refine hS.new (fun bf w' hbf hS => ?_)
  repeat' ((conv => whnf); first | refine RetC.mk ?_ | refine NzC.mk (by decide) ?_ | refine RngC.mk (by omega) (by omega) ?_ | refine IdxC.mk (by omega) (by omega) ?_ | refine hS.ld 1 rfl rfl ?_ | refine hS.la 1 rfl (l := [.int .i64 f.ia, .int .i64 f.ip]) rfl rfl ?_ | refine hS.la 1 rfl (l := [.int .i64 f.fa, .int .i64 f.fp]) rfl rfl ?_ | refine brD (fun _ => ?_) (fun _ => ?_) | refine brND (fun _ => ?_) (fun _ => ?_) | refine brN (fun _ => ?_) (fun _ => ?_) | refine brI (fun _ => ?_) (fun _ => ?_))
  refine (tfind_ok f.proto f.ia f.ip f.fa f.fp (hS.blk 0 rfl) hm).mono ?_
  rintro v w2 ⟨rfl, hx⟩
  replace hS := hS.no hx
  clear hx
  repeat' ((conv => whnf); first | refine RetC.mk ?_ | refine NzC.mk (by decide) ?_ | refine RngC.mk (by omega) (by omega) ?_ | refine IdxC.mk (by omega) (by omega) ?_ | refine hS.ld 1 rfl rfl ?_ | refine hS.la 1 rfl (l := [.int .i64 f.fa, .int .i64 f.fp]) rfl rfl ?_ | refine brD (fun _ => ?_) (fun _ => ?_) | refine brND (fun _ => ?_) (fun _ => ?_) | refine brN (fun _ => ?_) (fun _ => ?_) | refine brI (fun _ => ?_) (fun _ => ?_))
  refine (tback_ok f.proto f.port f.fa f.fp (hS.blk 0 rfl) hm).mono ?_
  rintro v w2 ⟨rfl, hx⟩
  replace hS := hS.no hx
  clear hx
  generalize T.find f.proto f.ia f.ip f.fa f.fp = k
  generalize T.back f.proto f.port f.fa f.fp = j
  repeat' ((conv => whnf); first | refine RetC.mk ?_ | refine NzC.mk (by decide) ?_ | refine RngC.mk (by omega) (by omega) ?_ | refine IdxC.mk (by omega) (by omega) ?_ | refine hS.ldr (hE.at_ 5 rfl) (hE.ne 5 rfl hq) ?_ | refine hS.ldrF (hE.at_ 5 rfl) (hE.ne 5 rfl hq) id ?_ | (refine drawS tabOk mixed [] No [0, 1, 2] (by kernel_rfl) ?_; rintro w1 rfl; replace hS := hS.drew) | refine hS.la 1 rfl (l := encFlow f) rfl rfl ?_ | refine brD (fun _ => ?_) (fun _ => ?_) | refine brND (fun _ => ?_) (fun _ => ?_) | refine brN (fun _ => ?_) (fun _ => ?_) | refine brI (fun _ => ?_) (fun _ => ?_))
  · rename_i h1
    rw [if_pos (.inl h1)]
    exact ⟨rfl, hS.ext, hS.blk 0 rfl⟩
  · rename_i h1 h2
    rw [if_pos (.inr h2)]
    exact ⟨rfl, hS.ext, hS.blk 0 rfl⟩
  · rename_i h1 h2
    rw [if_neg (by rintro (h | h); exact h1 h; exact h2 h)]
    refine (lay_ok f (hS.blk 0 rfl) hm hv ((hE.sub rfl).ext hS.ext fun c hc => by subst hc; exact hq) hq).mono ?_
    rintro v w' ⟨rfl, hx, hB⟩
    replace hS := hS.upd 0 rfl hx (fun c hc => by subst hc; exact List.mem_singleton.2 rfl) (blk_local _ _ _) hB (fun c hc => .inl hc)
    repeat' ((conv => whnf); first | refine RetC.mk ?_ | refine NzC.mk (by decide) ?_ | refine RngC.mk (by omega) (by omega) ?_ | refine IdxC.mk (by omega) (by omega) ?_ | refine brD (fun _ => ?_) (fun _ => ?_) | refine brND (fun _ => ?_) (fun _ => ?_) | refine brN (fun _ => ?_) (fun _ => ?_) | refine brI (fun _ => ?_) (fun _ => ?_))
    exact ⟨rfl, hS.ext, hS.blk 0 rfl⟩

/-- The slot of a flow that is there: its address; else an error. -/
theorem flow_ok {E : Nat → Addr} {n : Nat} (k : Int) (hb : Blk w b 100 (encM T)) (hm : T.cells.length = 32) (hE : Errs w E n [2, 4]) :
    CallC Tryd.prog 63 #[.pointer (some ⟨b, 0, none⟩), .int .i64 k] w fun v w' => (∃ p, v = .tuple #[p, errV E (T.flowErr k)] ∧ (T.flowErr k = 0 → p = .pointer (some ⟨b, 0 + 1 + k.toNat * 10, none⟩))) ∧ Ext No w w' := by
  unfold MirS.flowErr
  refine fn_intro tabOk Tryd.func63 (by kernel_rfl) rfl Tryd.ntmps63 (Nat.le_of_ble_eq_true rfl) ?_
  have hS := St.start w No
  by_cases h : k < 0 ∨ 32 ≤ k
  · rw [if_pos h]
    (conv => whnf)
    refine (slot_bad k (hE.sub rfl) h).mono ?_
    rintro v w2 ⟨rfl, hx⟩
    replace hS := hS.no hx
    repeat' ((conv => whnf); first | refine RetC.mk ?_ | refine NzC.mk (by decide) ?_ | refine RngC.mk (by omega) (by omega) ?_ | refine IdxC.mk (by omega) (by omega) ?_ | refine brD (fun _ => ?_) (fun _ => ?_) | refine brND (fun _ => ?_) (fun _ => ?_) | refine brN (fun _ => ?_) (fun _ => ?_) | refine brI (fun _ => ?_) (fun _ => ?_))
    exact ⟨⟨_, rfl, fun h => by cases h⟩, hS.ext⟩
  · rw [if_neg h]
    obtain ⟨c, hc⟩ : ∃ c, T.cells[k.toNat]? = some c := ⟨_, List.getElem?_eq_getElem (by omega)⟩
    rw [hc]
    (conv => whnf)
    refine (slot_ok k (by omega) (by omega)).mono ?_
    rintro v w2 ⟨rfl, rfl⟩
    repeat' ((conv => whnf); first | refine RetC.mk ?_ | refine NzC.mk (by decide) ?_ | refine RngC.mk (by omega) (by omega) ?_ | refine IdxC.mk (by omega) (by omega) ?_ | refine hS.ldr ((hb.cell _).trans (mir_cell (k := k.toNat) (j := 2) hc rfl (by simp <;> omega))) id ?_ | refine hS.ldr (hE.at_ 4 rfl) id ?_ | refine hS.ldrF (hE.at_ 4 rfl) id id ?_ | refine brD (fun _ => ?_) (fun _ => ?_) | refine brND (fun _ => ?_) (fun _ => ?_) | refine brN (fun _ => ?_) (fun _ => ?_) | refine brI (fun _ => ?_) (fun _ => ?_))
    · rename_i h1
      dsimp only
      rw [if_pos h1]
      exact ⟨⟨_, rfl, fun h => by cases h⟩, hS.ext⟩
    · rename_i h1
      dsimp only
      rw [if_neg h1]
      exact ⟨⟨_, rfl, fun _ => rfl⟩, hS.ext⟩

theorem tdrop_ok {E : Nat → Addr} {n : Nat} (k : Int) (hb : Blk w b 100 (encM T)) (hm : T.cells.length = 32) (hv : VerOk T) (hE : Errs w E n [2, 4]) :
    CallC Tryd.prog 18 #[.pointer (some ⟨b, 0, none⟩), .int .i64 k] w fun v w' => v = errV E (T.drop k).1 ∧ Ext (· = b) w w' ∧ Blk w' b 100 (encM (T.drop k).2) := by
  have hcode : T.flowErr k ≠ 0 → ∃ j, T.flowErr k = j + 1 := fun h => ⟨T.flowErr k - 1, by omega⟩
  have hin : T.flowErr k = 0 → 0 ≤ k ∧ k < 32 := by
    unfold MirS.flowErr
    split
    · intro h; cases h
    · intro _; omega
  unfold MirS.drop
  refine fn_intro tabOk Tryd.func18 (by kernel_rfl) rfl Tryd.ntmps18 (Nat.le_of_ble_eq_true rfl) ?_
  have hS := (St.start w (· = b)).add (blk_local b _ _) hb (by simp [blk]; exact hb.lt) (by simp)
  (conv => whnf)
  refine (flow_ok k (hS.blk 0 rfl) hm hE).mono ?_
  rintro v w2 ⟨⟨p, rfl, hp⟩, hx⟩
  replace hS := hS.no hx
  clear hx
  by_cases h : T.flowErr k = 0
  · obtain rfl := hp h
    obtain ⟨h0, h1⟩ := hin h
    rw [if_neg (by simpa using h), h]
    obtain ⟨c, hc⟩ : ∃ c, T.cells[k.toNat]? = some c := ⟨_, List.getElem?_eq_getElem (by omega)⟩
    have hcv := hv c (List.mem_of_getElem? hc)
    (conv => whnf)
    refine hS.st 0 rfl (by rw [encM_len hm]; simp [cellsL]; omega) rfl (fun w' hS => ?_)
    have ho : over (encM T) (0 + 1 + k.toNat * 10 + 2) (encFlow noFlow) = encM ⟨T.life, T.cells.set k.toNat ⟨c.slot, c.ver, noFlow⟩⟩ := by
      rw [mir_over (k := k.toNat) (j := 2) (c' := ⟨c.slot, c.ver, noFlow⟩) hc (by simp [encFlow]) rfl (by simp <;> omega)]
    replace hS : St w (· = b) w' [blk b 100 (encM ⟨T.life, T.cells.set k.toNat ⟨c.slot, c.ver, noFlow⟩⟩)] := by rw [← ho]; exact hS
    have hc2 : (T.cells.set k.toNat ⟨c.slot, c.ver, noFlow⟩)[k.toNat]? = some ⟨c.slot, c.ver, noFlow⟩ := List.getElem?_set_self (by omega)
    (conv => whnf)
    refine hS.ld 0 rfl (mir_cell (k := k.toNat) (j := 1) hc2 rfl (by simp <;> omega)) ?_
    (conv => whnf)
    refine RngC.mk (by dsimp only; omega) (by dsimp only; omega) ?_
    (conv => whnf)
    refine hS.st 0 rfl (by rw [encM_len (by simpa using hm)]; simp [cellsL]; omega) rfl (fun w' hS => ?_)
    have ho : over (encM ⟨T.life, T.cells.set k.toNat ⟨c.slot, c.ver, noFlow⟩⟩) (0 + 1 + k.toNat * 10 + 1) [.int .i64 (c.ver + 1)] = encM ⟨T.life, setF T.cells k.toNat noFlow⟩ := by
      rw [mir_over (k := k.toNat) (j := 1) (c' := ⟨c.slot, c.ver + 1, noFlow⟩) hc2 (by simp) rfl (by simp <;> omega), setF_at hc, List.set_set]
    replace hS : St w (· = b) w' [blk b 100 (encM ⟨T.life, setF T.cells k.toNat noFlow⟩)] := by rw [← ho]; exact hS
    repeat' ((conv => whnf); first | refine RetC.mk ?_ | refine NzC.mk (by decide) ?_ | refine RngC.mk (by omega) (by omega) ?_ | refine IdxC.mk (by omega) (by omega) ?_ | refine brD (fun _ => ?_) (fun _ => ?_) | refine brND (fun _ => ?_) (fun _ => ?_) | refine brN (fun _ => ?_) (fun _ => ?_) | refine brI (fun _ => ?_) (fun _ => ?_))
    exact ⟨rfl, hS.ext, hS.blk 0 rfl⟩
  · rw [if_pos h]
    obtain ⟨j, hj⟩ := hcode h
    rw [hj]
    repeat' ((conv => whnf); first | refine RetC.mk ?_ | refine NzC.mk (by decide) ?_ | refine RngC.mk (by omega) (by omega) ?_ | refine IdxC.mk (by omega) (by omega) ?_ | refine brD (fun _ => ?_) (fun _ => ?_) | refine brND (fun _ => ?_) (fun _ => ?_) | refine brN (fun _ => ?_) (fun _ => ?_) | refine brI (fun _ => ?_) (fun _ => ?_))
    exact ⟨rfl, hS.ext, hS.blk 0 rfl⟩

theorem tget_bad {E : Nat → Addr} {n : Nat} (k : Int) (hE : Errs w E n [2]) (hk : k < 0 ∨ 32 ≤ k) :
    CallC Tryd.prog 42 #[.pointer (some ⟨b, 0, none⟩), .int .i64 k] w fun v w' => v = .tuple #[.agg (encCell ⟨0, 0, noFlow⟩).toArray, errV E 2] ∧ Ext No w w' := by
  refine fn_intro tabOk Tryd.func42 (by kernel_rfl) rfl Tryd.ntmps42 (Nat.le_of_ble_eq_true rfl) ?_
  have hS := St.start w No
  (conv => whnf)
  refine hS.new (fun b4 w' hb4 hS => ?_)
  (conv => whnf)
  refine (slot_bad k (hE.ext hS.ext fun _ h => h.elim) hk).mono ?_
  rintro v w2 ⟨rfl, hx⟩
  replace hS := hS.no hx
  repeat' ((conv => whnf); first | refine RetC.mk ?_ | refine NzC.mk (by decide) ?_ | refine RngC.mk (by omega) (by omega) ?_ | refine IdxC.mk (by omega) (by omega) ?_ | refine hS.st 0 rfl (Nat.le_of_ble_eq_true rfl) rfl (fun w' hS => ?_) | refine hS.la 0 rfl (l := encCell ⟨0, 0, noFlow⟩) rfl rfl ?_ | refine brD (fun _ => ?_) (fun _ => ?_) | refine brND (fun _ => ?_) (fun _ => ?_) | refine brN (fun _ => ?_) (fun _ => ?_) | refine brI (fun _ => ?_) (fun _ => ?_))
  exact ⟨rfl, hS.ext⟩
theorem tget_ok (k : Int) (hb : Blk w b 100 (encM T)) {c : CellS} (h0 : 0 ≤ k) (h1 : k < 32) (hc : T.cells[k.toNat]? = some c) :
    CallC Tryd.prog 42 #[.pointer (some ⟨b, 0, none⟩), .int .i64 k] w fun v w' => v = .tuple #[.agg (encCell c).toArray, .nilIface] ∧ Ext No w w' := by
  refine fn_intro tabOk Tryd.func42 (by kernel_rfl) rfl Tryd.ntmps42 (Nat.le_of_ble_eq_true rfl) ?_
  have hS := St.start w No
  have hcc : CellsAt w b (0 + 1 + k.toNat * 10) (encCell c) := fun j v hj => (hb.cell _).trans (mir_cell (k := k.toNat) (j := j) hc hj (by omega))
  (conv => whnf)
  refine hS.new (fun b4 w' hb4 hS => ?_)
  (conv => whnf)
  refine (slot_ok k h0 h1).mono ?_
  rintro v w2 ⟨rfl, rfl⟩
  (conv => whnf)
  refine hS.lar (l := encCell c) rfl hcc id ?_
  (conv => whnf)
  refine hS.st 0 rfl (Nat.le_of_ble_eq_true rfl) rfl (fun w' hS => ?_)
  (conv => whnf)
  refine hS.la 0 rfl (l := encCell c) rfl rfl ?_
  repeat' ((conv => whnf); first | refine RetC.mk ?_ | refine NzC.mk (by decide) ?_ | refine RngC.mk (by omega) (by omega) ?_ | refine IdxC.mk (by omega) (by omega) ?_ | refine brD (fun _ => ?_) (fun _ => ?_) | refine brND (fun _ => ?_) (fun _ => ?_) | refine brN (fun _ => ?_) (fun _ => ?_) | refine brI (fun _ => ?_) (fun _ => ?_))
  exact ⟨rfl, hS.ext⟩

theorem tcells_ok (hb : Blk w b 100 (encM T)) (hm : T.cells.length = 32) :
    CallC Tryd.prog 29 #[.pointer (some ⟨b, 0, none⟩)] w fun v w' => ∃ a' c', v = .slice a' 32 c' ∧ Ext No w w' ∧ (ownL 55 10 encCell v T.cells).holds w' ∧ Fresh w w' v := by
  refine fn_intro tabOk Tryd.func29 (by kernel_rfl) rfl Tryd.ntmps29 (Nat.le_of_ble_eq_true rfl) ?_
  (conv => whnf)
  refine (clone_ok (tab_slc hb hm) (by decide) rfl).mono ?_
  rintro v w' ⟨a', c', rfl, h⟩
  repeat' ((conv => whnf); first | refine RetC.mk ?_ | refine NzC.mk (by decide) ?_ | refine RngC.mk (by omega) (by omega) ?_ | refine IdxC.mk (by omega) (by omega) ?_ | refine brD (fun _ => ?_) (fun _ => ?_) | refine brND (fun _ => ?_) (fun _ => ?_) | refine brN (fun _ => ?_) (fun _ => ?_) | refine brI (fun _ => ?_) (fun _ => ?_))
  exact ⟨a', c', rfl, h⟩

theorem tnew_bad {E : Nat → Addr} {n : Nat} (nd : Int) (w : World) (hE : Errs w E n [2]) (h : ¬ (nd = 0 ∨ nd = 1)) :
    CallC Tryd.prog 10 #[.int .i64 nd] w fun v w' => v = .tuple #[.pointer none, errV E 2] ∧ Ext No w w' := by
  refine fn_intro tabOk Tryd.func10 (by kernel_rfl) rfl Tryd.ntmps10 (Nat.le_of_ble_eq_true rfl) ?_
  have hS := St.start w No
  have h0 : nd ≠ 0 := fun e => h (.inl e)
  have h1 : nd ≠ 1 := fun e => h (.inr e)
  repeat' ((conv => whnf); first | refine RetC.mk ?_ | refine hS.ldr (hE.at_ 2 rfl) id ?_ | refine hS.ldrF (hE.at_ 2 rfl) id id ?_ | (refine drawS tabOk mixed [] No [0, 1, 2] (by kernel_rfl) ?_; rintro w1 rfl; replace hS := hS.drew) | refine brND (fun _ => ?_) (fun h => absurd h (by assumption)))
  exact ⟨rfl, hS.ext⟩
theorem tab_build (f : Int) (w : World) : (Instr.build 100 #[(0, .int .i64 f)]).run Tryd.prog w = .ok (.agg (encM ⟨f, List.replicate 32 ⟨0, 0, noFlow⟩⟩).toArray) w := by kernel_rfl
theorem tnew_ok (nd : Int) (w : World) (h : nd = 0 ∨ nd = 1) :
    CallC Tryd.prog 10 #[.int .i64 nd] w fun v w' => ∃ b, v = .tuple #[.pointer (some ⟨b, 0, none⟩), .nilIface] ∧ w.heap.size ≤ b ∧ Ext No w w' ∧ Blk w' b 100 (encM ⟨2000 + nd * 24, emptyCells⟩) := by
  obtain ⟨V, hV, hl, h1, hbld⟩ : ∃ V : List Value, V = encM ⟨2000 + nd * 24, partCells 0⟩ ∧ V.length = 321 ∧ V.all isOne = true ∧ ∀ w, (Instr.build 100 #[(0, .int .i64 (2000 + nd * 24))]).run Tryd.prog w = .ok (.agg V.toArray) w := ⟨_, rfl, encM_len (by simp [partCells]), by unfold encM; rw [List.all_cons, flat_one codCell]; rfl, tab_build _⟩
  have hb2 : ∀ k : Value → Prop, k (.agg V.toArray) → PureC Tryd.prog (Instr.build 100 #[(0, .int .i64 (2000 + nd * 24))]) k := fun k hk => PureC.of hbld hk
  have ho : cellsL (.agg V.toArray) = encM ⟨2000 + nd * 24, partCells 0⟩ := by simp [cellsL, hV]
  generalize hVV : Value.agg V.toArray = VV at hb2 ho
  refine fn_intro tabOk Tryd.func10 (by kernel_rfl) rfl Tryd.ntmps10 (Nat.le_of_ble_eq_true rfl) ?_
  have hS := St.start w No
  repeat' ((conv => whnf); first | refine RngC.mk (by omega) (by omega) ?_ | refine hb2 _ ?_ | refine brND (fun _ => ?_) (fun _ => ?_))
  all_goals first | (exfalso; omega) | skip
  all_goals
    refine hS.new (fun b w' hb hS => ?_)
    rw [ho] at hS
    (conv => whnf)
    refine loopR tabOk (fun σ w' q => ∃ k : Nat, σ = [(18, .int .i64 k), (4, .pointer (some ⟨b, 0, none⟩))] ∧ q = 32 - k ∧ k ≤ 32 ∧ St w No w' [blk b 100 (encM ⟨2000 + nd * 24, partCells k⟩)])
      (σ' := [(18, .int .i64 ((0 : Nat) : Int)), (4, .pointer (some ⟨b, 0, none⟩))]) (n := 32) ⟨rfl, rfl, trivial⟩ ⟨0, rfl, rfl, Nat.zero_le _, hS⟩ ?_
    clear hS
    rintro _ w1 q ⟨k, rfl, rfl, hk, hS⟩
    (conv => whnf)
    refine brD (fun h3 => ?_) (fun h3 => ?_)
    · have hk : k < 32 := by omega
      have hc := partCells_at hk
      (conv => whnf)
      refine IdxC.mk (by omega) (by omega) ?_
      (conv => whnf)
      refine hS.st 0 rfl (by rw [encM_len (partCells_len (by omega))]; simp [cellsL]; omega) rfl (fun w' hS => ?_)
      have ho : over (encM ⟨2000 + nd * 24, partCells k⟩) (0 + 1 + Int.toNat (k : Int) * 10 + 0) [.int .i64 (k : Int)] = encM ⟨2000 + nd * 24, partCells (k + 1)⟩ := by
        rw [mir_over (k := k) (j := 0) (c' := ⟨(k : Int), 0, noFlow⟩) hc (by simp) rfl (by simp <;> omega)]
        simp only [partCells_set hk]
      replace hS : St w No w' [blk b 100 (encM ⟨2000 + nd * 24, partCells (k + 1)⟩)] := by rw [← ho]; exact hS
      clear ho
      (conv => whnf)
      refine RngC.mk (by omega) (by omega) ?_
      (conv => whnf)
      refine LoopE.mk ⟨_, [(18, .int .i64 ((k + 1 : Nat) : Int)), (4, _)], ?_, ⟨rfl, rfl, trivial⟩, ⟨k + 1, rfl, rfl, by omega, hS⟩⟩
      omega
    · obtain rfl : k = 32 := by omega
      rw [partCells_full] at hS
      repeat' ((conv => whnf); first | refine RetC.mk ?_ | refine NzC.mk (by decide) ?_ | refine RngC.mk (by omega) (by omega) ?_ | refine IdxC.mk (by omega) (by omega) ?_ | refine brD (fun _ => ?_) (fun _ => ?_) | refine brND (fun _ => ?_) (fun _ => ?_) | refine brN (fun _ => ?_) (fun _ => ?_) | refine brI (fun _ => ?_) (fun _ => ?_))
      exact ⟨b, rfl, hb, hS.ext, hS.blk 0 rfl⟩
end
end Go.Proofs.YteakdmngllfodaaDoor
