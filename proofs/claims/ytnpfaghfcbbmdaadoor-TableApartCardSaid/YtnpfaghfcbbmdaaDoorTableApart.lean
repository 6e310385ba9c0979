/-
  TableApart returns true whatever its arguments.
-/
import Derived.Test.YtnpfaghfcbbmdaaDoorListed
namespace Go.Proofs.YtnpfaghfcbbmdaaDoor
open Go Ev

/-! ### The plain law: no two flows have one Proto, Port and Far, or one Proto, Inner and Far -/
def clash (f g : FlowS) : Prop := f.proto = g.proto ∧ (f.fa = g.fa ∧ f.fp = g.fp) ∧ (f.port = g.port ∨ (f.ia = g.ia ∧ f.ip = g.ip))
structure Uniq (k : Nat) (T : MirS) : Prop where
  len : T.cells.length = 32
  ver : ∀ c ∈ T.cells, 0 ≤ c.ver ∧ c.ver ≤ k
  one : ∀ (i j : Nat) (c d : CellS), i ≠ j → T.cells[i]? = some c → T.cells[j]? = some d → c.f.proto ≠ 0 → ¬ clash c.f d.f
theorem Uniq.verOk {k : Nat} {T : MirS} (h : Uniq k T) (hk : k ≤ 1000) : VerOk T := fun c hc => by have := h.ver c hc; omega
theorem Uniq.succ {k : Nat} {T : MirS} (h : Uniq k T) : Uniq (k + 1) T := ⟨h.len, fun c hc => by have := h.ver c hc; omega, h.one⟩
theorem Uniq.empty (F : Int) : Uniq 0 ⟨F, emptyCells⟩ := by
  refine ⟨emptyCells_len, fun c hc => ?_, fun i j c d _ hi _ h0 => ?_⟩
  · simp only [emptyCells, List.mem_map] at hc
    obtain ⟨i, _, rfl⟩ := hc
    exact ⟨Int.le_refl _, Int.le_refl _⟩
  · have lt := (List.getElem?_eq_some_iff.1 hi).1
    rw [emptyCells_len] at lt
    have hi : emptyCells[i]? = some c := hi
    rw [emptyCells_at lt] at hi
    cases hi
    exact absurd rfl h0
/-- A flow is laid into one slot. -/
theorem Uniq.set {k : Nat} {T : MirS} (h : Uniq k T) {s : Nat} {f : FlowS} (hf : f.proto = 0 ∨ ∀ c ∈ T.cells, c.f.proto ≠ 0 → ¬ clash c.f f) : Uniq (k + 1) ⟨T.life, setF T.cells s f⟩ := by
  unfold setF
  cases hs : T.cells[s]? with
  | none => exact h.succ
  | some e =>
    have lt := (List.getElem?_eq_some_iff.1 hs).1
    have hev := h.ver e (List.mem_of_getElem? hs)
    refine ⟨by simpa using h.len, fun c hc => ?_, fun i j c d hne hi hj h0 hcl => ?_⟩
    · rcases List.mem_or_eq_of_mem_set hc with hc | rfl
      · have := h.ver c hc; omega
      · dsimp only; omega
    · simp only [List.getElem?_set] at hi hj
      by_cases h1 : s = i
      · subst h1
        rw [if_pos rfl, if_pos lt] at hi
        rw [if_neg hne] at hj
        cases hi
        rcases hf with hf | hf
        · exact h0 hf
        · refine hf d (List.mem_of_getElem? hj) ?_ ?_
          · obtain ⟨a, _⟩ := hcl
            have h0 : f.proto ≠ 0 := h0
            have a : f.proto = d.f.proto := a
            omega
          · obtain ⟨a, ⟨b, c⟩, e⟩ := hcl
            exact ⟨a.symm, ⟨b.symm, c.symm⟩, e.imp Eq.symm fun ⟨x, y⟩ => ⟨x.symm, y.symm⟩⟩
      · rw [if_neg h1] at hi
        by_cases h2 : s = j
        · subst h2
          rw [if_pos rfl, if_pos lt] at hj
          cases hj
          rcases hf with hf | hf
          · obtain ⟨a, _⟩ := hcl
            have a : c.f.proto = f.proto := a
            omega
          · exact hf c (List.mem_of_getElem? hi) h0 hcl
        · rw [if_neg h2] at hj
          exact h.one i j c d hne hi hj h0 hcl
theorem Uniq.lay {k : Nat} {T : MirS} (h : Uniq k T) {f : FlowS} (h1 : T.find f.proto f.ia f.ip f.fa f.fp < 0) (h2 : T.back f.proto f.port f.fa f.fp < 0) : Uniq (k + 1) (T.lay f).2 := by
  unfold MirS.lay
  split
  · exact h.succ
  · refine h.set (.inr fun c hc h0 hcl => ?_)
    have a := (idxI_neg _ _ _).1 h1 c hc
    have b := (idxI_neg _ _ _).1 h2 c hc
    obtain ⟨x, ⟨y, z⟩, u⟩ := hcl
    rcases u with u | ⟨u, v⟩
    · simp [there, fitB, x, y, z, u] at b
      exact h0 (x.trans b)
    · simp [there, fitF, x, y, z, u, v] at a
      exact h0 (x.trans a)
theorem portF_spec {T : MirS} {pr fa fp : Int} : ∀ (m i j : Nat), portF T pr fa fp m i = some j → T.back pr (T.life + j) fa fp < 0 ∧ i ≤ j ∧ j < i + m
  | 0, i, j, h => by cases h
  | m + 1, i, j, h => by
    unfold portF at h
    split at h
    · cases h
      exact ⟨by assumption, Nat.le_refl _, by omega⟩
    · have := portF_spec m (i + 1) j h
      exact ⟨this.1, by omega, by omega⟩
theorem Uniq.add {k : Nat} {T : MirS} (h : Uniq k T) (pr ia ip fa fp st un : Int) : Uniq (k + 1) (T.add pr ia ip fa fp st un).2 := by
  unfold MirS.add
  split
  · exact h.succ
  · rename_i h1
    split
    · rename_i i hi
      exact h.lay (f := ⟨pr, ia, ip, fa, fp, T.life + i, st, un⟩) (by dsimp only; omega) (portF_spec _ _ _ hi).1
    · exact h.succ
theorem Uniq.put {k : Nat} {T : MirS} (h : Uniq k T) (f : FlowS) : Uniq (k + 1) (T.put f).2 := by
  unfold MirS.put
  split
  · exact h.succ
  · rename_i h1
    exact h.lay (by omega) (by omega)
theorem Uniq.drop {k : Nat} {T : MirS} (h : Uniq k T) (s : Int) : Uniq (k + 1) (T.drop s).2 := by
  unfold MirS.drop
  split
  · exact h.succ
  · exact h.set (.inl rfl)
theorem MirS.lay_life (T : MirS) (f : FlowS) : (T.lay f).2.life = T.life := by
  unfold MirS.lay
  split <;> rfl
theorem MirS.add_life (T : MirS) (pr ia ip fa fp st un : Int) : (T.add pr ia ip fa fp st un).2.life = T.life := by
  unfold MirS.add
  split
  · rfl
  · split
    · exact T.lay_life _
    · rfl
theorem MirS.put_life (T : MirS) (f : FlowS) : (T.put f).2.life = T.life := by
  unfold MirS.put
  split
  · rfl
  · exact T.lay_life _
theorem MirS.drop_life (T : MirS) (k : Int) : (T.drop k).2.life = T.life := by
  unfold MirS.drop
  split <;> rfl
/-- What was added is in the slot that is told, by a port of the half. -/
theorem MirS.add_at {T : MirS} (hm : T.cells.length = 32) {pr ia ip fa fp st un : Int} (h : (T.add pr ia ip fa fp st un).1.2 = 0) : ∃ (k i : Nat) (c : CellS), (T.add pr ia ip fa fp st un).1.1 = k ∧ k < 32 ∧ i < 24 ∧ (T.add pr ia ip fa fp st un).2.cells[k]? = some c ∧ c.f = ⟨pr, ia, ip, fa, fp, T.life + i, st, un⟩ := by
  unfold MirS.add at h ⊢
  split at h
  · cases h
  · rename_i h1
    rw [if_neg h1]
    split at h
    · rename_i i hi
      try rw [hi]
      unfold MirS.lay at h ⊢
      split at h
      · cases h
      · rename_i h2
        try dsimp only
        rw [if_neg h2]
        obtain ⟨j, x, hj, _, he, _⟩ := idxI_spec proto0 T.cells 0 (by omega)
        have lt := (List.getElem?_eq_some_iff.1 hj).1
        have := (portF_spec _ _ _ hi).2
        refine ⟨j, i, ⟨x.slot, x.ver + 1, ⟨pr, ia, ip, fa, fp, T.life + i, st, un⟩⟩, by simpa using he, by omega, by omega, ?_, rfl⟩
        have e2 : (idxI proto0 T.cells 0).toNat = j := by omega
        rw [e2, setF_at hj, List.getElem?_set_self lt]
    · cases h

/-! ### The walk -/
theorem tableApart_ok {E : Nat → Addr} (W : World) (hE : Errs W E W.heap.size [2, 4, 5, 6]) (nd : Int) (a0 : Option Addr) (n0 c0 : Nat) (acts : List ActS) (hx : Slc W 10 encA (fun _ => True) a0 n0 acts) :
    CallC Tryd.prog 10 #[.int .i64 nd, .slice a0 n0 c0] W fun v w' => v = .bool true ∧ Ext No W w' := by
  have hm0 := hx.max
  refine fn_intro tabOk Tryd.func10 (by kernel_rfl) rfl Tryd.ntmps10 (Nat.le_of_ble_eq_true rfl) ?_
  have hS := St.start W No
  (conv => whnf)
  refine (listed_ok _ (hE.sub rfl) (Nat.le_refl _)).mono ?_
  rintro v w' ⟨rfl, hx'⟩
  replace hS := hS.no hx'
  clear hx'
  (conv => whnf)
  refine brD (fun h1 => ?_) (fun h1 => ?_)
  · repeat' ((conv => whnf); first | refine RetC.mk ?_ | refine NzC.mk (by decide) ?_ | refine RngC.mk (by omega) (by omega) ?_ | refine IdxC.mk (by omega) (by omega) ?_ | refine brD (fun _ => ?_) (fun _ => ?_) | refine brND (fun _ => ?_) (fun _ => ?_) | refine brN (fun _ => ?_) (fun _ => ?_) | refine brI (fun _ => ?_) (fun _ => ?_))
    exact ⟨rfl, hS.ext⟩
  (conv => whnf)
  refine brD (fun h2 => ?_) (fun h2 => ?_)
  · repeat' ((conv => whnf); first | refine RetC.mk ?_ | refine NzC.mk (by decide) ?_ | refine RngC.mk (by omega) (by omega) ?_ | refine IdxC.mk (by omega) (by omega) ?_ | refine brD (fun _ => ?_) (fun _ => ?_) | refine brND (fun _ => ?_) (fun _ => ?_) | refine brN (fun _ => ?_) (fun _ => ?_) | refine brI (fun _ => ?_) (fun _ => ?_))
    exact ⟨rfl, hS.ext⟩
  (conv => whnf)
  refine brD (fun h3 => ?_) (fun h3 => ?_)
  · repeat' ((conv => whnf); first | refine RetC.mk ?_ | refine NzC.mk (by decide) ?_ | refine RngC.mk (by omega) (by omega) ?_ | refine IdxC.mk (by omega) (by omega) ?_ | refine brD (fun _ => ?_) (fun _ => ?_) | refine brND (fun _ => ?_) (fun _ => ?_) | refine brN (fun _ => ?_) (fun _ => ?_) | refine brI (fun _ => ?_) (fun _ => ?_))
    exact ⟨rfl, hS.ext⟩
  (conv => whnf)
  refine (tnew_ok nd _ (by omega)).mono ?_
  rintro v w' ⟨b, rfl, hb, hx', hB⟩
  replace hS := hS.made hx' (blk_local _ _ _) hB (by simp [blk]; exact ⟨hb, hB.lt⟩)
  have fb := hS.fresh 0 rfl
  clear hx' hB hb
  (conv => whnf)
  refine loopR tabOk (fun σ w q => ∃ (i : Nat) (T : MirS), σ = [(8, .int .i64 i), (6, .pointer (some ⟨b, 0, none⟩)), (1, .slice a0 n0 c0), (0, .int .i64 nd)] ∧ q = n0 - i ∧ i ≤ n0 ∧ St W No w [blk b 104 (encM T)] ∧ Uniq i T ∧ T.life = 2000 + nd * 24)
    (σ' := [(8, .int .i64 ((0 : Nat) : Int)), (6, .pointer (some ⟨b, 0, none⟩)), (1, .slice a0 n0 c0), (0, .int .i64 nd)]) (n := n0) ⟨rfl, rfl, rfl, rfl, trivial⟩ ⟨0, ⟨2000 + nd * 24, emptyCells⟩, rfl, rfl, Nat.zero_le _, hS, Uniq.empty _, rfl⟩ ?_
  clear hS
  rintro _ w q ⟨i, T, rfl, rfl, hi, hS, hU, hF⟩
  have hv := hU.verOk (by omega)
  (conv => whnf)
  refine brD (fun h4 => ?_) (fun h4 => ?_)
  · obtain ⟨b0, o0, a, _, _, rfl, _, hc⟩ := hx.at (k := i) (by omega)
    (conv => whnf)
    refine IdxC.mk (by omega) (by omega) ?_
    (conv => whnf)
    refine hS.lar (l := encA a) rfl hc id ?_
    (conv => whnf)
    refine hS.new (fun b9 w' hb9 hS => ?_)
    (conv => whnf)
    refine hS.st 1 rfl (Nat.le_of_ble_eq_true rfl) rfl (fun w' hS => ?_)
    replace hS : St W No w' [blk b 104 (encM T), blk b9 82 (encA a)] := hS
    (conv => whnf)
    refine hS.ld 1 rfl rfl ?_
    (conv => whnf)
    refine eqStr ?_
    (conv => whnf)
    refine brD (fun h5 => ?_) (fun h5 => ?_)
    · repeat' ((conv => whnf); first | refine RetC.mk ?_ | refine NzC.mk (by decide) ?_ | refine RngC.mk (by omega) (by omega) ?_ | refine IdxC.mk (by omega) (by omega) ?_ | refine hS.ld 1 rfl rfl ?_ | refine hS.la 1 rfl (l := [.int .i64 a.f.ia, .int .i64 a.f.ip]) rfl rfl ?_ | refine hS.la 1 rfl (l := [.int .i64 a.f.fa, .int .i64 a.f.fp]) rfl rfl ?_ | refine brD (fun _ => ?_) (fun _ => ?_) | refine brND (fun _ => ?_) (fun _ => ?_) | refine brN (fun _ => ?_) (fun _ => ?_) | refine brI (fun _ => ?_) (fun _ => ?_))
      refine (tadd_ok a.f.proto a.f.ia a.f.ip a.f.fa a.f.fp a.f.state a.f.til (hS.blk 0 rfl) hU.len hv (by omega) ((hE.sub rfl).ext hS.ext fun _ h => h.elim) fb).mono ?_
      rintro v w' ⟨rfl, hx', hB⟩
      replace hS := hS.upd 0 rfl hx' (fun c hc => by subst hc; exact List.mem_singleton.2 rfl) (blk_local _ _ _) hB (fun c hc => .inl hc)
      clear hx' hB
      have hU2 := hU.add a.f.proto a.f.ia a.f.ip a.f.fa a.f.fp a.f.state a.f.til
      have hF2 := T.add_life a.f.proto a.f.ia a.f.ip a.f.fa a.f.fp a.f.state a.f.til
      have hat := MirS.add_at hU.len (pr := a.f.proto) (ia := a.f.ia) (ip := a.f.ip) (fa := a.f.fa) (fp := a.f.fp) (st := a.f.state) (un := a.f.til)
      generalize T.add a.f.proto a.f.ia a.f.ip a.f.fa a.f.fp a.f.state a.f.til = R at hS hU2 hF2 hat
      obtain ⟨⟨k, e⟩, T2⟩ := R
      dsimp only at hS hU2 hF2 hat
      cases e with
      | succ e =>
        (conv => whnf)
        refine RngC.mk (by omega) (by omega) ?_
        (conv => whnf)
        refine LoopE.mk ⟨_, [(8, .int .i64 ((i + 1 : Nat) : Int)), (6, _), (1, _), (0, _)], by omega, ⟨rfl, rfl, rfl, rfl, trivial⟩, ⟨i + 1, T2, rfl, rfl, by omega, hS.keep 1, ⟨hU2, hF2.trans hF⟩⟩⟩
      | zero =>
        obtain ⟨kk, j, c, rfl, hk, hj, hc2, hcf⟩ := hat rfl
        (conv => whnf)
        refine (tget_ok kk (hS.blk 0 rfl) (by omega) (by omega) (by simpa using hc2)).mono ?_
        rintro v w' ⟨rfl, hx'⟩
        replace hS := hS.no hx'
        clear hx'
        (conv => whnf)
        refine hS.new (fun b12 w' hb12 hS => ?_)
        (conv => whnf)
        refine hS.st 2 rfl (Nat.le_of_ble_eq_true rfl) rfl (fun w' hS => ?_)
        replace hS : St W No w' [blk b 104 (encM T2), blk b9 82 (encA a), blk b12 59 (encCell c)] := hS
        have hport : c.f.port = 2000 + nd * 24 + j := by rw [hcf, hF]
        repeat' ((conv => whnf); first | refine RetC.mk ?_ | refine NzC.mk (by decide) ?_ | refine RngC.mk (by omega) (by omega) ?_ | refine IdxC.mk (by omega) (by omega) ?_ | refine hS.ld 2 rfl rfl ?_ | refine brD (fun _ => ?_) (fun _ => ?_) | refine brND (fun _ => ?_) (fun _ => ?_) | refine brN (fun _ => ?_) (fun _ => ?_) | refine brI (fun _ => ?_) (fun _ => ?_))
        · exfalso; omega
        · exfalso; omega
        · exact LoopE.mk ⟨_, [(8, .int .i64 ((i + 1 : Nat) : Int)), (6, _), (1, _), (0, _)], by omega, ⟨rfl, rfl, rfl, rfl, trivial⟩, ⟨i + 1, T2, rfl, rfl, by omega, hS.keep 1, hU2, hF2.trans hF⟩⟩
    · (conv => whnf)
      refine eqStr ?_
      (conv => whnf)
      refine brD (fun h6 => ?_) (fun h6 => ?_)
      · (conv => whnf)
        refine hS.la 1 rfl (l := encFlow a.f) rfl rfl ?_
        (conv => whnf)
        refine (tput_ok a.f (hS.blk 0 rfl) hU.len hv ((hE.sub rfl).ext hS.ext fun _ h => h.elim) fb).mono ?_
        rintro v w' ⟨rfl, hx', hB⟩
        replace hS := hS.upd 0 rfl hx' (fun c hc => by subst hc; exact List.mem_singleton.2 rfl) (blk_local _ _ _) hB (fun c hc => .inl hc)
        (conv => whnf)
        refine RngC.mk (by omega) (by omega) ?_
        (conv => whnf)
        refine LoopE.mk ⟨_, [(8, .int .i64 ((i + 1 : Nat) : Int)), (6, _), (1, _), (0, _)], by omega, ⟨rfl, rfl, rfl, rfl, trivial⟩, ⟨i + 1, (T.put a.f).2, rfl, rfl, by omega, hS.keep 1, ⟨hU.put _, (T.put_life _).trans hF⟩⟩⟩
      · (conv => whnf)
        refine eqStr ?_
        (conv => whnf)
        refine brD (fun h7 => ?_) (fun h7 => ?_)
        · (conv => whnf)
          refine hS.ld 1 rfl rfl ?_
          (conv => whnf)
          refine (tdrop_ok a.slot (hS.blk 0 rfl) hU.len hv ((hE.sub rfl).ext hS.ext fun _ h => h.elim)).mono ?_
          rintro v w' ⟨rfl, hx', hB⟩
          replace hS := hS.upd 0 rfl hx' (fun c hc => by subst hc; exact List.mem_singleton.2 rfl) (blk_local _ _ _) hB (fun c hc => .inl hc)
          (conv => whnf)
          refine RngC.mk (by omega) (by omega) ?_
          (conv => whnf)
          refine LoopE.mk ⟨_, [(8, .int .i64 ((i + 1 : Nat) : Int)), (6, _), (1, _), (0, _)], by omega, ⟨rfl, rfl, rfl, rfl, trivial⟩, ⟨i + 1, (T.drop a.slot).2, rfl, rfl, by omega, hS.keep 1, ⟨hU.drop _, (T.drop_life _).trans hF⟩⟩⟩
        ·
          (conv => whnf)
          refine RngC.mk (by omega) (by omega) ?_
          (conv => whnf)
          refine LoopE.mk ⟨_, [(8, .int .i64 ((i + 1 : Nat) : Int)), (6, _), (1, _), (0, _)], by omega, ⟨rfl, rfl, rfl, rfl, trivial⟩, ⟨i + 1, T, rfl, rfl, by omega, hS.keep 1, ⟨hU.succ, hF⟩⟩⟩
  · (conv => whnf)
    refine (tcells_ok (hS.blk 0 rfl) hU.len).mono ?_
    rintro v w' ⟨a', c', rfl, hx', hO, hFr⟩
    replace hS := hS.madeL hx' hO hFr
    have hsl : Slc w' 10 encCell (fun _ => True) a' 32 T.cells := ownL_slc codCell (hS.get 1 rfl) fun _ _ => trivial
    have hone := hU.one
    have hlen := hU.len
    have hW := hS.ext
    clear hS hU hv hx' hO hFr
    have hS := (St.start w' No)
    (conv => whnf)
    refine loopR tabOk (fun σ w q => ∃ i : Nat, σ = [(16, .int .i64 i), (15, .slice a' 32 c')] ∧ q = 32 - i ∧ i ≤ 32 ∧ St w' No w [])
      (σ' := [(16, .int .i64 ((0 : Nat) : Int)), (15, .slice a' 32 c')]) (n := 32) ⟨rfl, rfl, trivial⟩ ⟨0, rfl, rfl, Nat.zero_le _, hS⟩ ?_
    clear hS hi
    rintro _ w2 q ⟨i, rfl, rfl, hi, hS⟩
    (conv => whnf)
    refine brD (fun h5 => ?_) (fun h5 => ?_)
    · obtain ⟨b1, o1, x, hxi, _, rfl, _, hcx⟩ := hsl.at (k := i) (by omega)
      (conv => whnf)
      refine loopR tabOk (fun σ w q => ∃ k : Nat, σ = [(17, .int .i64 k), (16, .int .i64 i), (15, .slice (some ⟨b1, o1, none⟩) 32 c')] ∧ q = i - k ∧ k ≤ i ∧ St w' No w [])
        (σ' := [(17, .int .i64 ((0 : Nat) : Int)), (16, .int .i64 i), (15, .slice (some ⟨b1, o1, none⟩) 32 c')]) (n := i) ⟨rfl, rfl, rfl, trivial⟩ ⟨0, rfl, rfl, Nat.zero_le _, hS⟩ ?_
      clear hS
      rintro _ w3 q ⟨k, rfl, rfl, hk, hS⟩
      (conv => whnf)
      refine brD (fun h6 => ?_) (fun h6 => ?_)
      · obtain ⟨b2, o2, y, hyk, _, hb2, _, hcy⟩ := hsl.at (k := k) (by omega)
        cases hb2
        have hne := hone i k x y (by omega) hxi hyk
        (conv => whnf)
        refine IdxC.mk (by omega) (by omega) ?_
        (conv => whnf)
        refine hS.lar (l := encFlow x.f) rfl (hcx.sub 2 (l' := encFlow x.f) rfl) id ?_
        (conv => whnf)
        refine hS.new (fun b18 w' _ hS => ?_)
        (conv => whnf)
        refine hS.st 0 rfl (Nat.le_of_ble_eq_true rfl) rfl (fun w' hS => ?_)
        (conv => whnf)
        refine IdxC.mk (by omega) (by omega) ?_
        (conv => whnf)
        refine hS.lar (l := encFlow y.f) rfl (hcy.sub 2 (l' := encFlow y.f) rfl) id ?_
        (conv => whnf)
        refine hS.new (fun b19 w' _ hS => ?_)
        (conv => whnf)
        refine hS.st 1 rfl (Nat.le_of_ble_eq_true rfl) rfl (fun w' hS => ?_)
        replace hS := hS.weaken (H' := [blk b18 57 (encFlow x.f), blk b19 57 (encFlow y.f)]) (List.Sublist.refl _)
        repeat' ((conv => whnf); first | refine RetC.mk ?_ | refine NzC.mk (by decide) ?_ | refine RngC.mk (by omega) (by omega) ?_ | refine IdxC.mk (by omega) (by omega) ?_ | refine hS.ld 0 rfl rfl ?_ | refine hS.ld 1 rfl rfl ?_ | refine hS.la 0 rfl (l := [.int .i64 x.f.fa, .int .i64 x.f.fp]) rfl rfl ?_ | refine hS.la 1 rfl (l := [.int .i64 y.f.fa, .int .i64 y.f.fp]) rfl rfl ?_ | refine hS.la 0 rfl (l := [.int .i64 x.f.ia, .int .i64 x.f.ip]) rfl rfl ?_ | refine hS.la 1 rfl (l := [.int .i64 y.f.ia, .int .i64 y.f.ip]) rfl rfl ?_ | refine neEnd ?_ | refine eqEnd ?_ | refine brD (fun _ => ?_) (fun _ => ?_) | refine brND (fun _ => ?_) (fun _ => ?_) | refine brN (fun _ => ?_) (fun _ => ?_) | refine brI (fun _ => ?_) (fun _ => ?_))
        all_goals first | exact LoopE.mk ⟨_, [(17, .int .i64 ((k + 1 : Nat) : Int)), (16, _), (15, _)], by omega, ⟨rfl, rfl, rfl, trivial⟩, ⟨k + 1, rfl, rfl, by omega, hS.keep 0⟩⟩ | skip
        all_goals (exfalso; simp_all [clash]; done)
      · (conv => whnf)
        refine RngC.mk (by omega) (by omega) ?_
        (conv => whnf)
        exact LoopE.mk ⟨_, [(16, .int .i64 ((i + 1 : Nat) : Int)), (15, _)], by omega, ⟨rfl, rfl, trivial⟩, ⟨i + 1, rfl, rfl, by omega, hS⟩⟩
    · repeat' ((conv => whnf); first | refine RetC.mk ?_ | refine NzC.mk (by decide) ?_ | refine RngC.mk (by omega) (by omega) ?_ | refine IdxC.mk (by omega) (by omega) ?_ | refine brD (fun _ => ?_) (fun _ => ?_) | refine brND (fun _ => ?_) (fun _ => ?_) | refine brN (fun _ => ?_) (fun _ => ?_) | refine brI (fun _ => ?_) (fun _ => ?_))
      exact ⟨rfl, hW.trans hS.ext⟩

theorem tableApart_walk {E : Nat → Addr} (W : World) (args : List Value) (hE : Errs W E W.heap.size [2, 4, 5, 6]) (ha : ArgsOk Tryd.prog W [3, 77] args) :
    CallC Tryd.prog 10 args.toArray W fun v w' => v = .bool true ∧ Ext No W w' := by
  obtain ⟨v0, args, rfl, h0, ha⟩ := ha.cons
  obtain ⟨v1, args, rfl, h1, ha⟩ := ha.cons
  obtain rfl := ha.nil
  obtain ⟨x0, rfl, _⟩ := arg_int Tryd.underlying3 h0
  obtain ⟨d, hd⟩ : ∃ d, 10 ≤ d := ⟨10, Nat.le_refl _⟩
  obtain ⟨a0, n0, c0, xs, rfl, hx, _⟩ := arg_slice (d := d) (sz := 10) Tryd.underlying77 (by kernel_rfl) (by decide) (dec_act hd) h1
  exact tableApart_ok W hE x0 a0 n0 c0 xs hx
end Go.Proofs.YtnpfaghfcbbmdaaDoor
