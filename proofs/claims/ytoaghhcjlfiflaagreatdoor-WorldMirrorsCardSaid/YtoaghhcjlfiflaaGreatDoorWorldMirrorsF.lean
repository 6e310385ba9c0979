/-
  Texts of this claim, joined: ApartS, LowS, RowE, Notes, NotesB, WorldH, WorldA, WorldB, WorldC.
-/
import Derived.Test.YtoaghhcjlfiflaaGreatDoorWorldMirrorsE
import Derived.Lib.AppendZerosOnto
import Derived.Lib.Overlaps

namespace Go.Proofs.YtoaghhcjlfiflaaGreatDoor
open Go Ev
def FlowIn (f : FlowS) : Prop := f.proto ≠ 0 → 2000 ≤ f.port ∧ f.port < 2048
def FlowsIn (l : List CellS) : Prop := ∀ c ∈ l, FlowIn c.f
theorem flowIn_no : FlowIn noFlow := fun h => absurd rfl h
theorem FlowsIn.empty : FlowsIn emptyCells := fun c hc => by
  simp only [emptyCells, List.mem_map] at hc
  obtain ⟨i, _, rfl⟩ := hc
  exact flowIn_no
theorem FlowsIn.at_ {l : List CellS} (h : FlowsIn l) {k : Nat} {c : CellS} (hc : l[k]? = some c) : FlowIn c.f := h c (List.mem_of_getElem? hc)
theorem FlowsIn.set {l : List CellS} (h : FlowsIn l) (k : Nat) {c : CellS} (hc : FlowIn c.f) : FlowsIn (l.set k c) := fun x hx => by
  rcases List.mem_or_eq_of_mem_set hx with hx | rfl
  · exact h x hx
  · exact hc
theorem FlowsIn.setF {l : List CellS} (h : FlowsIn l) (k : Nat) {f : FlowS} (hf : FlowIn f) : FlowsIn (setF l k f) := by
  unfold Go.Proofs.YtoaghhcjlfiflaaGreatDoor.setF
  split
  · exact h.set _ hf
  · exact h
theorem FlowsIn.lay {T : MirS} (h : FlowsIn T.cells) {f : FlowS} (hf : FlowIn f) : FlowsIn (T.lay f).2.cells := by
  unfold MirS.lay
  split
  · exact h
  · exact h.setF _ hf
theorem FlowsIn.put {T : MirS} (h : FlowsIn T.cells) {f : FlowS} (hf : FlowIn f) : FlowsIn (T.put f).2.cells := by
  unfold MirS.put
  split
  · exact h
  · exact h.lay hf
theorem portF_lt {T : MirS} {pr fa fp : Int} : ∀ (n i : Nat) {j : Nat}, portF T pr fa fp n i = some j → i ≤ j ∧ j < i + n
  | 0, _, _, h => by cases h
  | n + 1, i, j, h => by
    unfold portF at h
    split at h
    · obtain rfl := Option.some.inj h
      omega
    · have := portF_lt n (i + 1) h
      omega
theorem FlowsIn.add {T : MirS} (h : FlowsIn T.cells) (hl : 2000 ≤ T.life ∧ T.life + 24 ≤ 2048) (pr ia ip fa fp st un : Int) : FlowsIn (T.add pr ia ip fa fp st un).2.cells := by
  unfold MirS.add
  split
  · exact h
  split
  · rename_i i hi
    have := portF_lt _ _ hi
    exact h.lay fun _ => by dsimp only; omega
  · exact h
theorem FlowsIn.flowAt {T : MirS} (h : FlowsIn T.cells) (k : Int) : FlowIn (flowAt T k) := by
  unfold Go.Proofs.YtoaghhcjlfiflaaGreatDoor.flowAt
  split
  · rename_i c hc
    exact h.at_ hc
  · exact flowIn_no
theorem FlowsIn.setS {T : MirS} (h : FlowsIn T.cells) (k st un : Int) : FlowsIn (T.setS k st un).2.cells := by
  unfold MirS.setS
  split
  · exact h
  · exact h.setF _ (fun hp => h.flowAt k hp)
theorem FlowsIn.drop {T : MirS} (h : FlowsIn T.cells) (k : Int) : FlowsIn (T.drop k).2.cells := by
  unfold MirS.drop
  split
  · exact h
  · exact h.setF _ flowIn_no
theorem FlowsIn.expire {T : MirS} (h : FlowsIn T.cells) (now : Int) : FlowsIn (T.expire now).cells := fun c hc => by
  obtain ⟨d, hd, rfl | rfl⟩ := expCells_mem hc
  · exact h _ hd
  · unfold dropC
    split
    · exact flowIn_no
    · exact h _ hd
theorem FlowsIn.put1 {l : List CellS} (h : FlowsIn l) {c : CellS} (hc : FlowIn c.f) : FlowsIn (put1C l c) := by
  unfold put1C
  split
  · split
    · exact h.set _ hc
    · exact h
  · exact h
theorem FlowsIn.fold : ∀ (xs : List CellS) {l : List CellS}, FlowsIn l → FlowsIn xs → FlowsIn (xs.foldl put1C l)
  | [], _, h, _ => h
  | x :: xs, _, h, hx => FlowsIn.fold xs (h.put1 (hx x List.mem_cons_self)) (fun c hc => hx c (List.mem_cons_of_mem _ hc))
theorem FlowsIn.tell {T : MirS} (h : FlowsIn T.cells) (life : Int) {xs : List CellS} (hx : FlowsIn xs) : FlowsIn (T.tell life xs).2.cells := by
  unfold MirS.tell
  split
  · exact h
  split
  · exact h
  · refine FlowsIn.fold xs ?_ hx
    split
    · exact FlowsIn.empty
    · exact h
theorem FlowsIn.putAll (now : Int) : ∀ (l : List FlowS) {T : MirS}, FlowsIn T.cells → (∀ f ∈ l, FlowIn f) → FlowsIn (putAll now T l).cells
  | [], _, h, _ => h
  | f :: l, T, h, hf => FlowsIn.putAll now l (T := (T.put { f with til := now + timeS f.proto f.state }).2) (h.put fun hp => hf f List.mem_cons_self hp) (fun g hg => hf g (List.mem_cons_of_mem _ hg))
theorem FlowsIn.flows {l : List CellS} (h : FlowsIn l) : ∀ f ∈ flowsOf l, FlowIn f := fun f hf => by
  unfold flowsOf at hf
  obtain ⟨c, hc, rfl⟩ := List.mem_map.1 hf
  exact h c (List.mem_filter.1 hc).1
theorem FlowsIn.out {l : List CellS} (h : FlowsIn l) (p : List Nat) : FlowsIn (outC l p) := fun c hc => by
  unfold outC at hc
  obtain ⟨k, _, rfl⟩ := List.mem_map.1 hc
  unfold cellAt
  split
  · rename_i d hd
    exact h.at_ hd
  · exact flowIn_no

structure NodeG (n : Int) (ev : List (Int × Int)) (N : NodeS) (B : BytS) : Prop where
  cell : openS B.data = N.cell
  ge : (N.cell.ep : Int) ≤ N.role.epoch
  act : N.role.active = true → (n, N.role.epoch) ∈ ev
  tab : FlowsIn N.tab.cells
  mir : FlowsIn N.mir.cells
def EpG (n : Int) (ev : List (Int × Int)) (B : BytS) : Prop := ∀ e ∈ ev, e.1 = n → e.2 ≤ ((openS B.data).ep : Int)
structure SideG (n : Int) (ev : List (Int × Int)) (s : SideS) : Prop where
  ep : EpG n ev s.byt
  node : ∀ N, s.node = some N → NodeG n ev N s.byt
def NoteG (ev : List (Int × Int)) (x : NoteS) : Prop := (x.claim = true → (x.fro, x.epoch) ∈ ev) ∧ FlowsIn x.cells
theorem next_gt {r : RoleS} (h : r.Ok) (h0 : r.next.2 = 0) : r.epoch < r.next.1 ∧ r.next.1.tmod 2 = r.node ∧ r.next.1 ≤ r.epoch + 2 := by
  have hn := h.n0
  have he := h.e0
  have hm : ∀ a : Int, 0 ≤ a → a.tmod 2 = a % 2 := fun a ha => Int.tmod_eq_emod_of_nonneg ha
  unfold RoleS.next at h0 ⊢
  dsimp only at h0 ⊢
  generalize hE : (if (r.epoch + 1).tmod 2 ≠ r.node then r.epoch + 1 + 1 else r.epoch + 1) = e at h0 ⊢
  have h3 : r.epoch < e ∧ e.tmod 2 = r.node ∧ e ≤ r.epoch + 2 := by
    rw [← hE]
    split
    · rename_i h2
      rw [hm _ (by omega)] at h2 ⊢
      omega
    · rename_i h2
      rw [hm _ (by omega)] at h2 ⊢
      omega
  by_cases h2 : e > 1073741824
  · rw [if_pos h2] at h0
    exact absurd (show (2 : Nat) = 0 from h0) (by decide)
  · rw [if_neg h2]
    exact h3
theorem notesG {n : Int} {ev : List (Int × Int)} {N : NodeS} (hid : N.id = n) (c : Bool) (ha : (c = true ∨ N.role.active = true) → (n, N.role.epoch) ∈ ev) (ht : FlowsIn N.tab.cells) : ∀ x ∈ (N.notes c).1, NoteG ev x := by
  intro x hx
  unfold NodeS.notes at hx
  dsimp only at hx
  rcases List.mem_append.1 hx with hx | hx
  · split at hx
    · rename_i hc
      obtain rfl := List.mem_singleton.1 hx
      refine ⟨fun _ => ?_, fun c hc => by cases hc⟩
      rw [hid]
      refine ha (hc.imp id fun hb => ?_)
      unfold NodeS.beat at hb
      rw [Bool.and_eq_true] at hb
      exact hb.1
    · cases hx
  · split at hx
    · obtain rfl := List.mem_singleton.1 hx
      exact ⟨(fun h => by cases h), ht.out _⟩
    · cases hx
structure TickG (n : Int) (ev : List (Int × Int)) (N : NodeS) (B : BytS) (T : Nat × List NoteS × NodeS × BytS) : Prop where
  ep : EpG n ev T.2.2.2
  err : T.2.2.2.off = false → T.1 ≠ 0 → NodeG n ev T.2.2.1 T.2.2.2
  good : T.2.2.2.off = false → T.1 = 0 →
    (¬ (N.role.active = false ∧ T.2.2.1.role.active = true) ∧ NodeG n ev T.2.2.1 T.2.2.2 ∧ ∀ x ∈ T.2.1, NoteG ev x) ∨
    ((N.role.active = false ∧ T.2.2.1.role.active = true) ∧ ((openS B.data).ep : Int) < T.2.2.1.role.epoch ∧ T.2.2.1.role.epoch.tmod 2 = n ∧ EpG n (ev ++ [(n, T.2.2.1.role.epoch)]) T.2.2.2 ∧ NodeG n (ev ++ [(n, T.2.2.1.role.epoch)]) T.2.2.1 T.2.2.2 ∧ ∀ x ∈ T.2.1, NoteG (ev ++ [(n, T.2.2.1.role.epoch)]) x)
theorem tick4 (r : RoleS) : r.tick.2.epoch = r.epoch ∧ r.tick.2.active = r.active ∧ r.tick.2.node = r.node ∧ (r.tick.1 = true → r.active = false) := by
  unfold RoleS.tick
  split
  · exact ⟨rfl, rfl, rfl, fun h => by cases h⟩
  · rename_i h
    exact ⟨rfl, rfl, rfl, fun _ => Bool.eq_false_iff.2 h⟩
theorem tickG {m : Nat} {n : Int} {ev : List (Int × Int)} {N : NodeS} {B : BytS} (hN : NOk m N) (hm : m ≤ 50000000) (hid : N.id = n) (hB : BOk B) (hoff : B.off = false) (h : NodeG n ev N B) (hep : EpG n ev B) : TickG n ev N B (N.tick B) := by
  obtain ⟨r1, r2, r3, r4⟩ := tick4 N.role
  unfold NodeS.tick
  split
  · exact ⟨hep, fun _ _ => h, fun _ h0 => absurd h0 (by simp)⟩
  rename_i hnow
  have hst : NodeG n ev N.step.2 B := ⟨h.cell, by show _ ≤ N.role.tick.2.epoch; rw [r1]; exact h.ge, by show N.role.tick.2.active = true → (n, N.role.tick.2.epoch) ∈ ev; rw [r1, r2]; exact h.act, h.tab.expire _, h.mir⟩
  have hstk := hN.step hm (by omega)
  have hsid : N.step.2.id = n := hid
  split
  · rename_i h1
    have hna : N.role.active = false := r4 h1
    have hsa : N.step.2.role.active = false := r2.trans hna
    generalize hM : N.step.2 = M at hst hstk hsid hsa
    unfold NodeS.claim
    by_cases hnx : M.role.next.2 ≠ 0
    · rw [if_pos hnx]
      dsimp only
      rw [if_neg (by simp)]
      obtain ⟨n1, n2, n3, n4, n5, _⟩ := notes_same M false
      refine ⟨hep, fun _ h => absurd rfl h, fun _ _ => .inl ⟨fun hh => ?_, ⟨?_, ?_, ?_, ?_, ?_⟩, notesG hsid false (fun hh => ?_) hst.tab⟩⟩
      · have := hh.2
        dsimp only at this
        rw [n2, hsa] at this
        cases this
      · dsimp only
        rw [n3]
        exact hst.cell
      · dsimp only
        rw [n3, n2]
        exact hst.ge
      · dsimp only
        rw [n2]
        exact hst.act
      · dsimp only
        rw [n4]
        exact hst.tab
      · dsimp only
        rw [n5]
        exact hst.mir
      · rcases hh with hh | hh
        · cases hh
        · exact hst.act hh
    · rw [if_neg hnx]
      have hnx : M.role.next.2 = 0 := Classical.byContradiction hnx
      obtain ⟨g1, g2, _⟩ := next_gt hstk.role hnx
      obtain ⟨hcl⟩ : Nonempty ((M.role.claim M.role.next.1) = (0, { M.role with active := true, epoch := M.role.next.1 })) := ⟨RoleS.claim_next hsa hnx⟩
      obtain ⟨p1, _, p2⟩ := put_cut (C := M.cell) (e := M.role.next.1) (l := (M.cell.li : Int)) hB hoff hst.cell
      generalize hP : M.cell.put B M.role.next.1 M.cell.li = P at p1 p2
      obtain ⟨pe, B', C'⟩ := P
      dsimp only at p1 p2 ⊢
      have hepM : ∀ e ∈ ev, e.1 = n → e.2 ≤ (M.cell.ep : Int) := fun e he h1 => by rw [← hst.cell]; exact hep e he h1
      rcases p2 with ⟨p3, p4, p5, p6, p7, p8, p9⟩ | ⟨p3, p4, p5⟩ | ⟨p3, p4⟩
      · -- a claim
        have hpe : ¬ pe ≠ 0 := fun h => h p3
        rw [if_neg hpe]
        dsimp only
        rw [if_neg (by simp)]
        rw [hcl]
        dsimp only
        obtain ⟨n1, n2, n3, n4, n5, _⟩ := notes_same { M with cell := C', role := { M.role with active := true, epoch := M.role.next.1 }, tab := putAll M.now M.tab (flowsOf M.mir.cells) } true
        have hepB : ((openS B.data).ep : Int) ≤ M.role.epoch := by rw [hst.cell]; exact hst.ge
        have hrid := hstk.rid
        refine ⟨fun e he h1 => ?_, fun _ h => absurd rfl h, fun _ _ => .inr ⟨⟨hna, ?_⟩, ?_, ?_, fun e he h1 => ?_, ⟨?_, ?_, ?_, ?_, ?_⟩, ?_⟩⟩
        · dsimp only
          rw [p4, p8]
          have := hep e he h1
          omega
        · dsimp only
          rw [n2]
        · dsimp only
          rw [n2]
          dsimp only
          omega
        · dsimp only
          rw [n2]
          dsimp only
          rw [g2, hrid]
          exact hsid
        · dsimp only at he ⊢
          rw [n2] at he
          dsimp only at he
          rw [p4, p8]
          rcases List.mem_append.1 he with he | he
          · have := hep e he h1
            omega
          · obtain rfl := List.mem_singleton.1 he
            exact Int.le_refl _
        · dsimp only
          rw [n3]
          exact p4
        · dsimp only
          rw [n3, n2]
          dsimp only
          omega
        · intro _
          exact List.mem_append_right _ (List.mem_singleton.2 rfl)
        · dsimp only
          rw [n4]
          exact FlowsIn.putAll _ _ hst.tab hst.mir.flows
        · dsimp only
          rw [n5]
          exact hst.mir
        · dsimp only
          rw [n2]
          exact notesG (N := { M with cell := C', role := { M.role with active := true, epoch := M.role.next.1 }, tab := putAll M.now M.tab (flowsOf M.mir.cells) }) hsid true (fun _ => List.mem_append_right _ (List.mem_singleton.2 rfl)) (FlowsIn.putAll _ _ hst.tab hst.mir.flows)
      · -- power fell
        have hpe : pe ≠ 0 := by omega
        rw [if_pos hpe]
        dsimp only
        rw [if_pos hpe]
        refine ⟨fun e he h1 => ?_, fun h => ?_, fun h => ?_⟩
        · dsimp only
          rw [p4]
          exact hepM e he h1
        · dsimp only at h
          rw [p5] at h
          cases h
        · dsimp only at h
          rw [p5] at h
          cases h
      · obtain ⟨rfl, rfl⟩ := Prod.mk.inj p4
        rw [if_pos p3]
        dsimp only
        rw [if_pos p3]
        exact ⟨hep, fun _ _ => hst, fun _ h0 => absurd h0 p3⟩
  · obtain ⟨n1, n2, n3, n4, n5, _⟩ := notes_same N.step.2 false
    refine ⟨hep, fun _ h => absurd rfl h, fun _ _ => .inl ⟨fun hh => ?_, ⟨?_, ?_, ?_, ?_, ?_⟩, notesG hsid false (fun hh => ?_) hst.tab⟩⟩
    · have h2 := hh.2
      dsimp only at h2
      rw [n2] at h2
      have h3 : N.role.tick.2.active = true := h2
      rw [r2, hh.1] at h3
      cases h3
    · dsimp only
      rw [n3]
      exact hst.cell
    · dsimp only
      rw [n3, n2]
      exact hst.ge
    · dsimp only
      rw [n2]
      exact hst.act
    · dsimp only
      rw [n4]
      exact hst.tab
    · dsimp only
      rw [n5]
      exact hst.mir
    · rcases hh with hh | hh
      · cases hh
      · exact hst.act hh
theorem passG {n : Int} {ev : List (Int × Int)} {N : NodeS} {B : BytS} (h : NodeG n ev N B) (k f : Int) (o : Bool) : NodeG n ev (N.pass k f o) B := by
  refine ⟨h.cell, h.ge, h.act, ?_, h.mir⟩
  unfold NodeS.pass
  dsimp only
  split
  · exact h.tab.drop _
  · exact h.tab.setS _ _ _
theorem beginG {m : Nat} {n : Int} {ev : List (Int × Int)} {N : NodeS} {B : BytS} (hN : NOk m N) (h : NodeG n ev N B) (p : PktS) : NodeG n ev (N.begin p).2 B := by
  have h1 := hN.lif
  have h2 := hN.id
  unfold NodeS.begin
  split
  · exact h
  split
  · exact h
  · exact ⟨h.cell, h.ge, h.act, h.tab.add ⟨by omega, by omega⟩ _ _ _ _ _ _ _, h.mir⟩
theorem insideG {m : Nat} {n : Int} {ev : List (Int × Int)} {N : NodeS} {B : BytS} (hN : NOk m N) (h : NodeG n ev N B) (p : PktS) : NodeG n ev (N.inside p).2.2 B := by
  unfold NodeS.inside
  repeat' split
  all_goals first | exact h | exact passG h _ _ _ | exact beginG hN h p
theorem outsideG {n : Int} {ev : List (Int × Int)} {N : NodeS} {B : BytS} (h : NodeG n ev N B) (p : PktS) : NodeG n ev (N.outside p).2.2 B := by
  unfold NodeS.outside
  repeat' split
  all_goals first | exact h | exact passG h _ _ _
theorem hearG {n : Int} {ev : List (Int × Int)} {N : NodeS} {B : BytS} (h : NodeG n ev N B) {x : NoteS} (hx : FlowsIn x.cells) : NodeG n ev (N.hear x).2 B := by
  have ht := h.mir.tell x.life hx
  unfold NodeS.hear
  split
  · exact h
  split
  · exact h
  split
  · exact ⟨h.cell, h.ge, h.act, h.tab, ht⟩
  · have hge := h.ge
    refine ⟨h.cell, ?_, ?_, h.tab, ht⟩
    · show (N.cell.ep : Int) ≤ (N.role.hear x.epoch).2.epoch
      unfold RoleS.hear
      split
      · exact hge
      · dsimp only
        repeat' split
        all_goals first | exact hge | (dsimp only; omega)
    · show (N.role.hear x.epoch).2.active = true → (n, (N.role.hear x.epoch).2.epoch) ∈ ev
      unfold RoleS.hear
      split
      · exact h.act
      · dsimp only
        repeat' split
        all_goals first | exact h.act | exact fun h => by cases h
theorem NodeG.mono {n : Int} {ev ev' : List (Int × Int)} {N : NodeS} {B : BytS} (h : NodeG n ev N B) (hs : ∀ e ∈ ev, e ∈ ev') : NodeG n ev' N B := ⟨h.cell, h.ge, fun ha => hs _ (h.act ha), h.tab, h.mir⟩
theorem NoteG.mono {ev ev' : List (Int × Int)} {x : NoteS} (h : NoteG ev x) (hs : ∀ e ∈ ev, e ∈ ev') : NoteG ev' x := ⟨fun hc => hs _ (h.1 hc), h.2⟩
theorem SideG.mono {n : Int} {ev : List (Int × Int)} {s : SideS} (h : SideG n ev s) {e : Int × Int} (he : e.1 ≠ n) : SideG n (ev ++ [e]) s :=
  ⟨fun d hd h1 => by
    rcases List.mem_append.1 hd with hd | hd
    · exact h.ep d hd h1
    · obtain rfl := List.mem_singleton.1 hd
      exact absurd h1 he, fun N hN => (h.node N hN).mono fun d hd => List.mem_append_left _ hd⟩
theorem newG {n : Int} {ev : List (Int × Int)} {B : BytS} (l : List RuleS) (hB : BOk B) (hoff : B.off = false) (hep : EpG n ev B) :
    EpG n ev (newN n B l).2.2 ∧ ((newN n B l).1 = 0 → NodeG n ev (newN n B l).2.1 (newN n B l).2.2) := by
  obtain ⟨p1, _, p2⟩ := put_cut (C := openS B.data) (e := ((openS B.data).ep : Int)) (l := ((openS B.data).li : Int) + 1) hB hoff rfl
  unfold newN
  dsimp only
  generalize (openS B.data).put B (openS B.data).ep ((openS B.data).li + 1) = P at p1 p2
  obtain ⟨pe, B', C'⟩ := P
  dsimp only at p1 p2 ⊢
  rcases p2 with ⟨p3, p4, p5, p6, p7, p8, p9⟩ | ⟨p3, p4, p5⟩ | ⟨p3, p4⟩
  · refine ⟨fun e he h1 => ?_, fun _ => ⟨p4, Int.le_refl _, (fun h => by cases h), FlowsIn.empty, FlowsIn.empty⟩⟩
    rw [p4, p8]
    exact hep e he h1
  · refine ⟨fun e he h1 => ?_, fun h => by omega⟩
    rw [p4]
    exact hep e he h1
  · obtain ⟨rfl, rfl⟩ := Prod.mk.inj p4
    exact ⟨hep, fun h => absurd h p3⟩

structure WG (W : WorldS) : Prop where
  a : SideG 0 W.events W.a
  b : SideG 1 W.events W.b
  notes : ∀ x ∈ W.fly, NoteG W.events x
  sw : (W.to < 0 → W.epoch = 0) ∧ (0 ≤ W.to → (W.to, W.epoch) ∈ W.events)
  evs : ∀ e ∈ W.events, (e.1 = 0 ∨ e.1 = 1) ∧ 0 < e.2 ∧ e.2.tmod 2 = e.1
  rise : W.events.Pairwise fun x y => x.1 = y.1 → x.2 < y.2
theorem WG.side {W : WorldS} (h : WG W) {n : Int} (hn : n = 0 ∨ n = 1) : SideG n W.events (W.side n) := by
  rcases hn with rfl | rfl
  · exact h.a
  · exact h.b
theorem WG.setSide {W : WorldS} (h : WG W) {n : Int} (hn : n = 0 ∨ n = 1) {s : SideS} (hs : SideG n W.events s) : WG (W.setSide n s) := by
  rcases hn with rfl | rfl
  · exact ⟨hs, h.b, h.notes, h.sw, h.evs, h.rise⟩
  · exact ⟨h.a, hs, h.notes, h.sw, h.evs, h.rise⟩
theorem WG.flyS {W : WorldS} (h : WG W) {l : List NoteS} (hl : ∀ x ∈ l, NoteG W.events x) : WG { W with fly := l } := ⟨h.a, h.b, hl, h.sw, h.evs, h.rise⟩
theorem WG.tick {m : Nat} {W : WorldS} (hO : WOk m W) (h : WG W) (hm : m ≤ 40000000) (hf : W.events.length < 1000) (n : Int) : WG (W.tick n).2 ∧ (W.tick n).2.events.length ≤ W.events.length + 1 := by
  unfold WorldS.tick
  split
  · exact ⟨h, Nat.le_succ _⟩
  rename_i hn
  have hn : n = 0 ∨ n = 1 := by omega
  have hs := hO.side hn
  have hg := h.side hn
  cases hN : (W.side n).node with
  | none => exact ⟨h, Nat.le_succ _⟩
  | some N =>
    obtain ⟨g1, g2, g3⟩ := hs.node N hN
    have hT := tickG g1 (by omega) g2 hs.bok g3 (hg.node N hN) hg.ep
    show WG (W.ticked n N (N.tick (W.side n).byt)).2 ∧ (W.ticked n N (N.tick (W.side n).byt)).2.events.length ≤ _
    generalize N.tick (W.side n).byt = T at hT ⊢
    obtain ⟨e, l, N', B'⟩ := T
    obtain ⟨t1, t2, t3⟩ := hT
    have hev : ∀ s, (W.setSide n s).events = W.events := fun s => by unfold WorldS.setSide; split <;> rfl
    have hsome : ∀ {ev : List (Int × Int)}, EpG n ev B' → NodeG n ev N' B' → SideG n ev ⟨some N', B'⟩ := fun a b => ⟨a, fun M hM => by obtain rfl := Option.some.inj hM; exact b⟩
    unfold WorldS.ticked
    dsimp only at t1 t2 t3 ⊢
    split
    · exact ⟨h.setSide hn ⟨t1, fun M hM => by cases hM⟩, by rw [hev]; exact Nat.le_succ _⟩
    rename_i ho
    have ho : B'.off = false := Bool.eq_false_iff.2 ho
    split
    · rename_i he
      exact ⟨h.setSide hn (hsome t1 (t2 ho he)), by dsimp only; rw [hev]; exact Nat.le_succ _⟩
    · rename_i he
      have he : e = 0 := Classical.byContradiction he
      rcases t3 ho he with ⟨q1, q2, q3⟩ | ⟨q1, q2, q3, q4, q5, q6⟩
      · rw [if_neg fun hh => q1 ⟨hh.1, hh.2.1⟩]
        obtain ⟨w1, w2, w3, w4, w5, w6⟩ := h.setSide hn (hsome t1 q2)
        rw [hev] at w1 w2 w3 w5 w6
        refine ⟨⟨w1, w2, ?_, ?_, w5, w6⟩, Nat.le_succ _⟩
        · intro x hx
          dsimp only at hx ⊢
          rcases List.mem_append.1 hx with hx | hx
          · exact h.notes x hx
          · exact q3 x (List.mem_of_mem_take hx)
        · rw [hev] at w4
          exact w4
      · rw [if_pos ⟨q1.1, q1.2, hf⟩]
        generalize N'.role.epoch = E at q2 q3 q4 q5 q6 ⊢
        have hsub : ∀ e ∈ W.events, e ∈ W.events ++ [(n, E)] := fun e he => List.mem_append_left _ he
        have hepn := hg.ep
        refine ⟨⟨?_, ?_, ?_, ?_, ?_, ?_⟩, by simp⟩
        · dsimp only
          rcases hn with rfl | rfl
          · exact hsome q4 q5
          · exact h.a.mono (by simp)
        · dsimp only
          rcases hn with rfl | rfl
          · exact h.b.mono (by simp)
          · exact hsome q4 q5
        · intro x hx
          dsimp only at hx ⊢
          rcases List.mem_append.1 hx with hx | hx
          · exact (h.notes x hx).mono hsub
          · exact q6 x (List.mem_of_mem_take hx)
        · have hsw : ∀ s, (W.setSide n s).to = W.to ∧ (W.setSide n s).epoch = W.epoch := fun s => by unfold WorldS.setSide; split <;> exact ⟨rfl, rfl⟩
          dsimp only
          rw [(hsw _).1, (hsw _).2]
          exact ⟨h.sw.1, fun h0 => hsub _ (h.sw.2 h0)⟩
        · intro x hx
          dsimp only at hx
          rcases List.mem_append.1 hx with hx | hx
          · exact h.evs x hx
          · obtain rfl := List.mem_singleton.1 hx
            exact ⟨hn, by dsimp only; omega, q3⟩
        · dsimp only
          refine List.pairwise_append.2 ⟨h.rise, List.pairwise_singleton _ _, fun x hx y hy hxy => ?_⟩
          obtain rfl := List.mem_singleton.1 hy
          have := hepn x hx hxy
          dsimp only
          omega
theorem WG.inside {m : Nat} {W : WorldS} (hO : WOk m W) (h : WG W) (p : PktS) : WG (W.inside p).2.2 ∧ (W.inside p).2.2.events = W.events := by
  have hev : ∀ n s, (W.setSide n s).events = W.events := fun n s => by unfold WorldS.setSide; split <;> rfl
  unfold WorldS.inside
  split
  · exact ⟨h, rfl⟩
  rename_i he
  obtain ⟨ht, N, hN⟩ := hO.hand (Classical.byContradiction he)
  rw [hN]
  exact ⟨h.setSide ht ⟨(h.side ht).ep, fun M hM => by obtain rfl := Option.some.inj hM; exact insideG ((hO.side ht).node N hN).1 ((h.side ht).node N hN) p⟩, hev _ _⟩
theorem WG.outside {m : Nat} {W : WorldS} (hO : WOk m W) (h : WG W) (p : PktS) : WG (W.outside p).2.2 ∧ (W.outside p).2.2.events = W.events := by
  have hev : ∀ n s, (W.setSide n s).events = W.events := fun n s => by unfold WorldS.setSide; split <;> rfl
  unfold WorldS.outside
  split
  · exact ⟨h, rfl⟩
  rename_i he
  obtain ⟨ht, N, hN⟩ := hO.hand (Classical.byContradiction he)
  rw [hN]
  exact ⟨h.setSide ht ⟨(h.side ht).ep, fun M hM => by obtain rfl := Option.some.inj hM; exact outsideG ((h.side ht).node N hN) p⟩, hev _ _⟩
theorem WG.off {W : WorldS} (h : WG W) (k : Int) : WG (W.off k) := h.flyS fun x hx => h.notes x (List.mem_of_mem_eraseIdx hx)
theorem WG.got {m : Nat} {W : WorldS} (hO : WOk m W) (h : WG W) {x : NoteS} (hx : NoteG W.events x) (hf : x.fro = 0 ∨ x.fro = 1) : WG (W.got x) ∧ (W.got x).events = W.events := by
  have hev : ∀ n s, (W.setSide n s).events = W.events := fun n s => by unfold WorldS.setSide; split <;> rfl
  unfold WorldS.got
  split
  · rename_i hc
    split
    · exact ⟨⟨h.a, h.b, h.notes, ⟨fun h0 => by dsimp only at h0; omega, fun _ => hx.1 hc⟩, h.evs, h.rise⟩, rfl⟩
    · exact ⟨h, rfl⟩
  split
  · exact ⟨h, rfl⟩
  rename_i hn
  have hn : 1 - x.fro = 0 ∨ 1 - x.fro = 1 := by omega
  split
  · exact ⟨h, rfl⟩
  · rename_i N hN
    exact ⟨h.setSide hn ⟨(h.side hn).ep, fun M hM => by obtain rfl := Option.some.inj hM; exact hearG ((h.side hn).node N hN) hx.2⟩, hev _ _⟩
theorem WG.deliver {m : Nat} {W : WorldS} (hO : WOk m W) (h : WG W) (k : Int) : WG (W.deliver k).2 ∧ (W.deliver k).2.events = W.events := by
  unfold WorldS.deliver
  split
  · exact ⟨h, rfl⟩
  split
  · exact ⟨h, rfl⟩
  · rename_i x hx
    exact WG.got (hO.off k) (h.off k) (h.notes x (List.mem_of_getElem? hx)) (hO.notes x (List.mem_of_getElem? hx)).1
theorem WG.drop {W : WorldS} (h : WG W) (k : Int) : WG (W.drop k).2 ∧ (W.drop k).2.events = W.events := by
  unfold WorldS.drop
  split
  · exact ⟨h, rfl⟩
  · exact ⟨h.off k, rfl⟩
theorem WG.twice {W : WorldS} (h : WG W) (k : Int) : WG (W.twice k).2 ∧ (W.twice k).2.events = W.events := by
  unfold WorldS.twice
  split
  · exact ⟨h, rfl⟩
  split
  · exact ⟨h, rfl⟩
  split
  · exact ⟨h, rfl⟩
  · rename_i x hx
    refine ⟨h.flyS fun y hy => ?_, rfl⟩
    rcases List.mem_append.1 hy with hy | hy
    · exact h.notes y (List.mem_of_mem_take hy)
    rcases List.mem_cons.1 hy with rfl | hy
    · exact h.notes _ (List.mem_of_getElem? hx)
    · exact h.notes y (List.mem_of_mem_drop hy)
theorem WG.down {W : WorldS} (h : WG W) (n : Int) : WG (W.down n).2 ∧ (W.down n).2.events = W.events := by
  have hev : ∀ n s, (W.setSide n s).events = W.events := fun n s => by unfold WorldS.setSide; split <;> rfl
  unfold WorldS.down
  split
  · exact ⟨h, rfl⟩
  · rename_i he
    obtain ⟨hn, _⟩ := upErr_in (Classical.byContradiction he)
    exact ⟨h.setSide hn ⟨(h.side hn).ep, fun M hM => by cases hM⟩, hev _ _⟩
theorem WG.cut {W : WorldS} (h : WG W) (n k : Int) : WG (W.cut n k).2 ∧ (W.cut n k).2.events = W.events := by
  have hev : ∀ n s, (W.setSide n s).events = W.events := fun n s => by unfold WorldS.setSide; split <;> rfl
  unfold WorldS.cut
  split
  · exact ⟨h, rfl⟩
  · rename_i he
    obtain ⟨hn, _⟩ := upErr_in (Classical.byContradiction he)
    have hd : (cutB (W.side n).byt k).data = (W.side n).byt.data := by unfold cutB; split <;> rfl
    refine ⟨h.setSide hn ⟨fun e he h1 => ?_, fun M hM => ?_⟩, hev _ _⟩
    · dsimp only
      rw [hd]
      exact (h.side hn).ep e he h1
    · obtain ⟨c1, c2, c3, c4, c5⟩ := (h.side hn).node M hM
      exact ⟨by dsimp only; rw [hd]; exact c1, c2, c3, c4, c5⟩
theorem WG.up {m : Nat} {W : WorldS} (hO : WOk m W) (h : WG W) (n : Int) : WG (W.up n).2 ∧ (W.up n).2.events = W.events := by
  have hev : ∀ n s, (W.setSide n s).events = W.events := fun n s => by unfold WorldS.setSide; split <;> rfl
  unfold WorldS.up
  split
  · exact ⟨h, rfl⟩
  rename_i hn
  have hn : n = 0 ∨ n = 1 := by omega
  split
  · exact ⟨h, rfl⟩
  · obtain ⟨g1, g2⟩ := newG (n := n) (ev := W.events) W.rules (onB_ok (hO.side hn).bok) rfl (h.side hn).ep
    split
    · exact ⟨h.setSide hn ⟨g1, fun M hM => by cases hM⟩, hev _ _⟩
    · rename_i h0
      exact ⟨h.setSide hn ⟨g1, fun M hM => by obtain rfl := Option.some.inj hM; exact g2 (Classical.byContradiction h0)⟩, hev _ _⟩
theorem SideG.ruled {n : Int} {ev : List (Int × Int)} {s : SideS} (h : SideG n ev s) (l : List RuleS) : SideG n ev (s.ruled l) := by
  refine ⟨h.ep, fun N hN => ?_⟩
  unfold SideS.ruled at hN
  obtain ⟨M, hM, rfl⟩ := Option.map_eq_some_iff.1 hN
  obtain ⟨c1, c2, c3, c4, c5⟩ := h.node M hM
  exact ⟨c1, c2, c3, c4, c5⟩
theorem WG.rule {W : WorldS} (h : WG W) (l : List RuleS) : WG (W.rule l) := ⟨h.a.ruled l, h.b.ruled l, h.notes, h.sw, h.evs, h.rise⟩
theorem WG.born {l : List RuleS} (hl : GoodR l) : WG (.born l) := by
  obtain ⟨h0, h1, _⟩ := WOk.born hl
  have hb : BOk by0 := ⟨by simp [by0], by decide, by decide⟩
  obtain ⟨a1, a2⟩ := newG (n := 0) (ev := []) l hb rfl (fun e he => by cases he)
  obtain ⟨b1, b2⟩ := newG (n := 1) (ev := []) l hb rfl (fun e he => by cases he)
  exact ⟨⟨a1, fun M hM => by obtain rfl := Option.some.inj hM; exact a2 h0⟩, ⟨b1, fun M hM => by obtain rfl := Option.some.inj hM; exact b2 h1⟩, (fun x hx => by cases hx), ⟨fun _ => rfl, fun h => absurd h (by simp [WorldS.born])⟩, (fun e he => by cases he), List.Pairwise.nil⟩

inductive Moved : WorldS → WorldS → Prop
  | tick (W : WorldS) (n : Int) : Moved W (W.tick n).2
  | down (W : WorldS) (n : Int) : Moved W (W.down n).2
  | up (W : WorldS) (n : Int) : Moved W (W.up n).2
  | cut (W : WorldS) (n k : Int) (hk : k ≤ 9223372036854775807) : Moved W (W.cut n k).2
  | inside (W : WorldS) (p : PktS) : Moved W (W.inside p).2.2
  | outside (W : WorldS) (p : PktS) : Moved W (W.outside p).2.2
  | drop (W : WorldS) (k : Int) : Moved W (W.drop k).2
  | twice (W : WorldS) (k : Int) : Moved W (W.twice k).2
  | deliver (W : WorldS) (k : Int) : Moved W (W.deliver k).2
  | rule (W : WorldS) (l : List RuleS) (hl : GoodR l) : Moved W (W.rule l)
  | same (W : WorldS) : Moved W W
theorem Moved.ok {W W' : WorldS} (k : Moved W W') {m : Nat} (h : WOk m W) (hm : m ≤ 40000000) : WOk (m + 34) W' := by
  cases k with
  | tick n => exact h.tick hm n
  | down n => exact (h.down n).mono (by omega)
  | up n => exact (h.up n).mono (by omega)
  | cut n k hk => exact (h.cut n k hk).mono (by omega)
  | inside p => exact (h.inside p).mono (by omega)
  | outside p => exact (h.outside p).mono (by omega)
  | drop k => exact (h.drop k).mono (by omega)
  | twice k => exact (h.twice k).mono (by omega)
  | deliver k => exact (h.deliver k).mono (by omega)
  | rule l hl => exact (h.rule hl).mono (by omega)
  | same => exact h.mono (by omega)
theorem Moved.wg {W W' : WorldS} (k : Moved W W') {m : Nat} (hO : WOk m W) (h : WG W) (hm : m ≤ 40000000) (hf : W.events.length < 1000) : WG W' ∧ W'.events.length ≤ W.events.length + 1 := by
  have eq : ∀ {V : WorldS}, WG V ∧ V.events = W.events → WG V ∧ V.events.length ≤ W.events.length + 1 := fun ⟨a, b⟩ => ⟨a, by rw [b]; exact Nat.le_succ _⟩
  cases k with
  | tick n => exact h.tick hO hm hf n
  | down n => exact eq (h.down n)
  | up n => exact eq (h.up hO n)
  | cut n k hk => exact eq (h.cut n k)
  | inside p => exact eq (h.inside hO p)
  | outside p => exact eq (h.outside hO p)
  | drop k => exact eq (h.drop k)
  | twice k => exact eq (h.twice k)
  | deliver k => exact eq (h.deliver hO k)
  | rule l hl => exact ⟨h.rule l, Nat.le_succ _⟩
  | same => exact ⟨h, Nat.le_succ _⟩
end Go.Proofs.YtoaghhcjlfiflaaGreatDoor

namespace Go.Proofs.YtoaghhcjlfiflaaGreatDoor
open Go Ev
structure LowN (c : Nat) (N : NodeS) : Prop where
  num : N.cell.num ≤ c
  li : N.cell.li ≤ c
  ep : N.cell.ep ≤ 2 * c
  role : N.role.epoch ≤ 2 * (c : Int)
structure LowB (c : Nat) (B : BytS) : Prop where
  num : (openS B.data).num ≤ c
  li : (openS B.data).li ≤ c
  ep : (openS B.data).ep ≤ 2 * c
structure LowSide (c : Nat) (s : SideS) : Prop where
  byt : LowB c s.byt
  node : ∀ N, s.node = some N → LowN c N
structure LowW (c : Nat) (W : WorldS) : Prop where
  a : LowSide c W.a
  b : LowSide c W.b
  notes : ∀ x ∈ W.fly, x.epoch ≤ 2 * (c : Int)
theorem LowN.le {c d : Nat} {N : NodeS} (h : LowN c N) (hd : c ≤ d) : LowN d N := ⟨by have := h.num; omega, by have := h.li; omega, by have := h.ep; omega, by have := h.role; omega⟩
theorem LowB.le {c d : Nat} {B : BytS} (h : LowB c B) (hd : c ≤ d) : LowB d B := ⟨by have := h.num; omega, by have := h.li; omega, by have := h.ep; omega⟩
theorem LowSide.le {c d : Nat} {s : SideS} (h : LowSide c s) (hd : c ≤ d) : LowSide d s := ⟨h.byt.le hd, fun N hN => (h.node N hN).le hd⟩
theorem LowW.le {c d : Nat} {W : WorldS} (h : LowW c W) (hd : c ≤ d) : LowW d W := ⟨h.a.le hd, h.b.le hd, fun x hx => by have := h.notes x hx; omega⟩
theorem LowW.side {c : Nat} {W : WorldS} (h : LowW c W) {n : Int} (hn : n = 0 ∨ n = 1) : LowSide c (W.side n) := by
  rcases hn with rfl | rfl
  · exact h.a
  · exact h.b
theorem LowW.setSide {c : Nat} {W : WorldS} (h : LowW c W) {n : Int} (hn : n = 0 ∨ n = 1) {s : SideS} (hs : LowSide c s) : LowW c (W.setSide n s) := by
  rcases hn with rfl | rfl
  · exact ⟨hs, h.b, h.notes⟩
  · exact ⟨h.a, hs, h.notes⟩
theorem putL_num (C : CelS) (B : BytS) (e l : Int) : (C.put B e l).2.2.num ≤ C.num + 1 := by
  unfold CelS.put
  repeat' split
  all_goals dsimp only
  all_goals omega
theorem putL_ep (C : CelS) (B : BytS) (e l : Int) {c : Nat} (he : e ≤ 2 * (c : Int)) (hl : l ≤ c) (h1 : C.ep ≤ 2 * c) (h2 : C.li ≤ c) : (C.put B e l).2.2.ep ≤ 2 * c ∧ (C.put B e l).2.2.li ≤ c := by
  unfold CelS.put
  repeat' split
  all_goals dsimp only
  all_goals omega
theorem put_low {c : Nat} {B : BytS} {C : CelS} {e l : Int} (hO : BOk B) (hoff : B.off = false) (hC : openS B.data = C) (hB : LowB c B) (he : e ≤ 2 * ((c + 1 : Nat) : Int)) (hl : l ≤ ((c + 1 : Nat) : Int)) :
    LowB (c + 1) (C.put B e l).2.1 ∧ (C.put B e l).2.2.num ≤ c + 1 ∧ (C.put B e l).2.2.ep ≤ 2 * (c + 1) ∧ (C.put B e l).2.2.li ≤ c + 1 := by
  obtain ⟨b1, b2, b3⟩ := hB
  rw [hC] at b1 b2 b3
  have h1 := putL_num C B e l
  obtain ⟨h2, h3⟩ := putL_ep (c := c + 1) C B e l he hl (by omega) (by omega)
  refine ⟨?_, by omega, h2, h3⟩
  obtain ⟨_, _, p⟩ := put_cut (C := C) (e := e) (l := l) hO hoff hC
  rcases p with ⟨_, p2, _⟩ | ⟨_, p2, _⟩ | ⟨_, p2⟩
  · exact ⟨by rw [p2]; omega, by rw [p2]; exact h3, by rw [p2]; exact h2⟩
  · exact ⟨by rw [p2]; omega, by rw [p2]; omega, by rw [p2]; omega⟩
  · rw [p2]
    exact ⟨by rw [hC]; omega, by rw [hC]; omega, by rw [hC]; omega⟩
theorem notes_low {c : Nat} {N : NodeS} (k : Bool) (h : N.role.epoch ≤ 2 * (c : Int)) : ∀ x ∈ (N.notes k).1, x.epoch ≤ 2 * (c : Int) := by
  intro x hx
  unfold NodeS.notes at hx
  dsimp only at hx
  rcases List.mem_append.1 hx with hx | hx
  · split at hx
    · obtain rfl := List.mem_singleton.1 hx
      exact h
    · cases hx
  · split at hx
    · obtain rfl := List.mem_singleton.1 hx
      exact h
    · cases hx
theorem notes_lown {c : Nat} {N : NodeS} (k : Bool) (h : LowN c N) : LowN c (N.notes k).2 := by
  obtain ⟨_, n2, n3, _⟩ := notes_same N k
  exact ⟨by rw [n3]; exact h.num, by rw [n3]; exact h.li, by rw [n3]; exact h.ep, by rw [n2]; exact h.role⟩
theorem next_le {r : RoleS} {c : Nat} (h : r.epoch ≤ 2 * (c : Int)) : r.next.1 ≤ 2 * ((c + 1 : Nat) : Int) := by
  unfold RoleS.next
  dsimp only
  repeat' split
  all_goals dsimp only
  all_goals omega
theorem tick_low {m c : Nat} {N : NodeS} {B : BytS} (hN : NOk m N) (hB : BOk B) (hoff : B.off = false) (hc : openS B.data = N.cell) (h : LowN c N) (hb : LowB c B) :
    LowB (c + 1) (N.tick B).2.2.2 ∧ LowN (c + 1) (N.tick B).2.2.1 ∧ ∀ x ∈ (N.tick B).2.1, x.epoch ≤ 2 * ((c + 1 : Nat) : Int) := by
  obtain ⟨r1, r2, r3, r4⟩ := tick4 N.role
  have hst : LowN c N.step.2 := ⟨h.num, h.li, h.ep, by show N.role.tick.2.epoch ≤ _; rw [r1]; exact h.role⟩
  have hsc : openS B.data = N.step.2.cell := hc
  unfold NodeS.tick
  split
  · exact ⟨hb.le (Nat.le_succ _), h.le (Nat.le_succ _), fun x hx => by cases hx⟩
  split
  · rename_i h1
    have hna : N.role.active = false := r4 h1
    have hsa : N.step.2.role.active = false := r2.trans hna
    generalize N.step.2 = M at hst hsc hsa
    unfold NodeS.claim
    by_cases hnx : M.role.next.2 ≠ 0
    · rw [if_pos hnx]
      dsimp only
      rw [if_neg (by simp)]
      exact ⟨hb.le (Nat.le_succ _), (notes_lown false hst).le (Nat.le_succ _), notes_low (c := c + 1) false (hst.le (Nat.le_succ _)).role⟩
    · rw [if_neg hnx]
      have hnx : M.role.next.2 = 0 := Classical.byContradiction hnx
      have hcl := RoleS.claim_next hsa hnx
      have hle := next_le hst.role
      obtain ⟨q1, q2, q3, q4⟩ := put_low (e := M.role.next.1) (l := (M.cell.li : Int)) hB hoff hsc hb hle (by have := hst.li; omega)
      generalize M.cell.put B M.role.next.1 M.cell.li = P at q1 q2 q3 q4
      obtain ⟨pe, B', C'⟩ := P
      dsimp only at q1 q2 q3 q4 ⊢
      by_cases hpe : pe ≠ 0
      · rw [if_pos hpe]
        dsimp only
        rw [if_pos hpe]
        exact ⟨q1, ⟨q2, q4, q3, by have := hst.role; dsimp only; omega⟩, fun x hx => by cases hx⟩
      · rw [if_neg hpe]
        dsimp only
        rw [if_neg (by simp), hcl]
        dsimp only
        have hM : LowN (c + 1) { M with cell := C', role := { M.role with active := true, epoch := M.role.next.1 }, tab := putAll M.now M.tab (flowsOf M.mir.cells) } := ⟨q2, q4, q3, hle⟩
        exact ⟨q1, notes_lown true hM, notes_low true hM.role⟩
  · exact ⟨hb.le (Nat.le_succ _), (notes_lown false hst).le (Nat.le_succ _), notes_low (c := c + 1) false (hst.le (Nat.le_succ _)).role⟩
theorem new_low {c : Nat} {n : Int} {B : BytS} (l : List RuleS) (hB : BOk B) (hoff : B.off = false) (hb : LowB c B) : LowB (c + 1) (newN n B l).2.2 ∧ LowN (c + 1) (newN n B l).2.1 := by
  obtain ⟨q1, q2, q3, q4⟩ := put_low (C := openS B.data) (e := ((openS B.data).ep : Int)) (l := ((openS B.data).li : Int) + 1) hB hoff rfl hb (by have := hb.ep; omega) (by have := hb.li; omega)
  refine ⟨q1, q2, q4, q3, ?_⟩
  show (((openS B.data).put B (openS B.data).ep ((openS B.data).li + 1)).2.2.ep : Int) ≤ _
  omega
theorem begin_cell (N : NodeS) (p : PktS) : (N.begin p).2.cell = N.cell ∧ (N.begin p).2.role = N.role := by
  unfold NodeS.begin
  repeat' split
  all_goals exact ⟨rfl, rfl⟩
theorem inside_cell (N : NodeS) (p : PktS) : (N.inside p).2.2.cell = N.cell ∧ (N.inside p).2.2.role = N.role := by
  unfold NodeS.inside
  repeat' split
  all_goals first | exact ⟨rfl, rfl⟩ | exact begin_cell N p
theorem outside_cell (N : NodeS) (p : PktS) : (N.outside p).2.2.cell = N.cell ∧ (N.outside p).2.2.role = N.role := by
  unfold NodeS.outside
  repeat' split
  all_goals exact ⟨rfl, rfl⟩
theorem hear_low {c : Nat} {N : NodeS} (h : LowN c N) {x : NoteS} (hx : x.epoch ≤ 2 * (c : Int)) : LowN c (N.hear x).2 := by
  unfold NodeS.hear
  split
  · exact h
  split
  · exact h
  split
  · exact ⟨h.num, h.li, h.ep, h.role⟩
  · refine ⟨h.num, h.li, h.ep, ?_⟩
    show (N.role.hear x.epoch).2.epoch ≤ _
    have := h.role
    unfold RoleS.hear
    split
    · exact this
    · dsimp only
      repeat' split
      all_goals first | exact this | exact hx
section
variable {W : WorldS} {m c : Nat}
theorem LowW.tick (hO : WOk m W) (hG : WG W) (h : LowW c W) (n : Int) : LowW (c + 1) (W.tick n).2 := by
  unfold WorldS.tick
  split
  · exact h.le (Nat.le_succ _)
  rename_i hn
  have hn : n = 0 ∨ n = 1 := by omega
  cases hN : (W.side n).node with
  | none => exact h.le (Nat.le_succ _)
  | some N =>
    obtain ⟨g1, g2, g3⟩ := (hO.side hn).node N hN
    have hT := tick_low g1 (hO.side hn).bok g3 ((hG.side hn).node N hN).cell ((h.side hn).node N hN) (h.side hn).byt
    show LowW (c + 1) (W.ticked n N (N.tick (W.side n).byt)).2
    generalize N.tick (W.side n).byt = T at hT ⊢
    obtain ⟨e, l, N', B'⟩ := T
    obtain ⟨t1, t2, t3⟩ := hT
    have h2 := h.le (Nat.le_succ c)
    dsimp only at t1 t2 t3
    have hup : LowSide (c + 1) ⟨some N', B'⟩ := ⟨t1, fun M hM => by obtain rfl := Option.some.inj hM; exact t2⟩
    unfold WorldS.ticked
    dsimp only
    split
    · exact h2.setSide hn ⟨t1, fun M hM => by cases hM⟩
    split
    · exact h2.setSide hn hup
    · obtain ⟨w1, w2, w3⟩ := h2.setSide hn hup
      refine ⟨w1, w2, fun x hx => ?_⟩
      dsimp only at hx
      rcases List.mem_append.1 hx with hx | hx
      · exact h2.notes x hx
      · exact t3 x (List.mem_of_mem_take hx)
theorem LowW.off (h : LowW c W) (k : Int) : LowW c (W.off k) := ⟨h.a, h.b, fun x hx => h.notes x (List.mem_of_mem_eraseIdx hx)⟩
theorem LowW.got (h : LowW c W) {x : NoteS} (hx : x.epoch ≤ 2 * (c : Int)) : LowW c (W.got x) := by
  unfold WorldS.got
  split
  · split
    · exact ⟨h.a, h.b, h.notes⟩
    · exact h
  split
  · exact h
  rename_i hn
  have hn : 1 - x.fro = 0 ∨ 1 - x.fro = 1 := by omega
  split
  · exact h
  · rename_i N hN
    exact h.setSide hn ⟨(h.side hn).byt, fun M hM => by obtain rfl := Option.some.inj hM; exact hear_low ((h.side hn).node N hN) hx⟩
theorem SideS.low_ruled {s : SideS} (h : LowSide c s) (l : List RuleS) : LowSide c (s.ruled l) := by
  refine ⟨h.byt, fun N hN => ?_⟩
  unfold SideS.ruled at hN
  obtain ⟨M, hM, rfl⟩ := Option.map_eq_some_iff.1 hN
  obtain ⟨a, b, d, e⟩ := h.node M hM
  exact ⟨a, b, d, e⟩
theorem Moved.low {V : WorldS} (k : Moved W V) (hO : WOk m W) (hG : WG W) (h : LowW c W) : LowW (c + 1) V := by
  have h2 := h.le (Nat.le_succ c)
  cases k with
  | tick n => exact h.tick hO hG n
  | down n =>
    unfold WorldS.down
    split
    · exact h2
    · rename_i he
      obtain ⟨hn, _⟩ := upErr_in (Classical.byContradiction he)
      obtain ⟨b1, b2, b3⟩ := (h2.side hn).byt
      exact h2.setSide hn ⟨⟨b1, b2, b3⟩, fun M hM => by cases hM⟩
  | up n =>
    unfold WorldS.up
    split
    · exact h2
    rename_i hn
    have hn : n = 0 ∨ n = 1 := by omega
    split
    · exact h2
    · obtain ⟨b1, b2, b3⟩ := (h.side hn).byt
      obtain ⟨q1, q2⟩ := new_low (n := n) (B := onB (W.side n).byt) W.rules (onB_ok (hO.side hn).bok) rfl ⟨b1, b2, b3⟩
      split
      · exact h2.setSide hn ⟨q1, fun M hM => by cases hM⟩
      · exact h2.setSide hn ⟨q1, fun M hM => by obtain rfl := Option.some.inj hM; exact q2⟩
  | cut n k hk =>
    unfold WorldS.cut
    split
    · exact h2
    · rename_i he
      obtain ⟨hn, _⟩ := upErr_in (Classical.byContradiction he)
      have hd : (cutB (W.side n).byt k).data = (W.side n).byt.data := by unfold cutB; split <;> rfl
      obtain ⟨b1, b2, b3⟩ := (h2.side hn).byt
      exact h2.setSide hn ⟨⟨by dsimp only; rw [hd]; exact b1, by dsimp only; rw [hd]; exact b2, by dsimp only; rw [hd]; exact b3⟩, fun M hM => (h2.side hn).node M hM⟩
  | inside p =>
    unfold WorldS.inside
    split
    · exact h2
    rename_i he
    obtain ⟨ht, N, hN⟩ := hO.hand (Classical.byContradiction he)
    rw [hN]
    obtain ⟨c1, c2⟩ := inside_cell N p
    obtain ⟨l1, l2, l3, l4⟩ := (h2.side ht).node N hN
    exact h2.setSide ht ⟨(h2.side ht).byt, fun M hM => by obtain rfl := Option.some.inj hM; exact ⟨by rw [c1]; exact l1, by rw [c1]; exact l2, by rw [c1]; exact l3, by rw [c2]; exact l4⟩⟩
  | outside p =>
    unfold WorldS.outside
    split
    · exact h2
    rename_i he
    obtain ⟨ht, N, hN⟩ := hO.hand (Classical.byContradiction he)
    rw [hN]
    obtain ⟨c1, c2⟩ := outside_cell N p
    obtain ⟨l1, l2, l3, l4⟩ := (h2.side ht).node N hN
    exact h2.setSide ht ⟨(h2.side ht).byt, fun M hM => by obtain rfl := Option.some.inj hM; exact ⟨by rw [c1]; exact l1, by rw [c1]; exact l2, by rw [c1]; exact l3, by rw [c2]; exact l4⟩⟩
  | drop k =>
    unfold WorldS.drop
    split
    · exact h2
    · exact h2.off k
  | twice k =>
    unfold WorldS.twice
    split
    · exact h2
    split
    · exact h2
    split
    · exact h2
    · rename_i x hx
      refine ⟨h2.a, h2.b, fun y hy => ?_⟩
      dsimp only at hy
      rcases List.mem_append.1 hy with hy | hy
      · exact h2.notes y (List.mem_of_mem_take hy)
      rcases List.mem_cons.1 hy with rfl | hy
      · exact h2.notes _ (List.mem_of_getElem? hx)
      · exact h2.notes y (List.mem_of_mem_drop hy)
  | deliver k =>
    unfold WorldS.deliver
    split
    · exact h2
    split
    · exact h2
    · rename_i x hx
      exact (h2.off k).got (h2.notes x (List.mem_of_getElem? hx))
  | rule l hl => exact ⟨SideS.low_ruled h2.a l, SideS.low_ruled h2.b l, h2.notes⟩
  | same => exact h2
theorem by0_open : openS by0.data = ⟨0, 0, 0, false⟩ := by decide +kernel
theorem LowW.born (l : List RuleS) : LowW 1 (.born l) := by
  have hb : BOk by0 := ⟨by simp [by0], by decide, by decide⟩
  have hl : LowB 0 by0 := ⟨by rw [by0_open]; decide, by rw [by0_open]; decide, by rw [by0_open]; decide⟩
  obtain ⟨a1, a2⟩ := new_low (n := 0) l hb rfl hl
  obtain ⟨b1, b2⟩ := new_low (n := 1) l hb rfl hl
  exact ⟨⟨a1, fun M hM => by obtain rfl := Option.some.inj hM; exact a2⟩, ⟨b1, fun M hM => by obtain rfl := Option.some.inj hM; exact b2⟩, fun x hx => by cases hx⟩
end
end Go.Proofs.YtoaghhcjlfiflaaGreatDoor

namespace Go.Proofs.YtoaghhcjlfiflaaGreatDoor.Ev
open Go
variable {P : Program} {w w' : World}

theorem own_blk {e : TypeId} {sz n n' cap : Nat} {a : Option Addr} {xs : List Value} (h : (own e sz (.slice a n' cap) n xs).holds w) :
    (a = none ∧ n' = 0 ∧ cap = 0 ∧ n = 0 ∧ xs = []) ∨ ∃ g cur, a = some ⟨g, 0, none⟩ ∧ n' = n ∧ Blk w g e cur ∧ n ≤ cap ∧ cap ≤ maxLen ∧ cur.length = cap * sz ∧ cur.take (n * sz) = xs := by
  obtain ⟨h0, h⟩ := h
  rcases h with ⟨h1, h2⟩ | ⟨g, c, cur, h1, _, hb, hn, hm, hs, ht⟩
  · simp only [Value.slice.injEq] at h1
    obtain ⟨rfl, rfl, rfl⟩ := h1
    subst h2
    exact .inl ⟨rfl, rfl, rfl, rfl, List.length_eq_zero_iff.1 (by rw [h0]; simp)⟩
  · simp only [Value.slice.injEq] at h1
    obtain ⟨rfl, rfl, rfl⟩ := h1
    exact .inr ⟨g, cur.toList, rfl, rfl, by unfold Blk; simpa using hb, hn, hm, by simpa using hs, ht⟩
theorem blk_own {e : TypeId} {sz n cap g : Nat} {cur xs : List Value} (hb : Blk w g e cur) (hn : n ≤ cap) (hm : cap ≤ maxLen) (hl : cur.length = cap * sz) (ht : cur.take (n * sz) = xs) : (own e sz (.slice (some ⟨g, 0, none⟩) n cap) n xs).holds w := by
  refine ⟨?_, .inr ⟨g, cap, cur.toArray, rfl, Nat.zero_le _, hb, hn, hm, by simpa using hl, by simpa using ht⟩⟩
  rw [← ht, List.length_take, hl]
  exact Nat.min_eq_left (Nat.mul_le_mul_right sz hn)
theorem cells_run {b o : Nat} {l : List Value} (hc : CellsAt w b o l) : (loadCells ⟨b, o, none⟩ l.length).run P w = .ok l.toArray w :=
  run_loadCells_list w ⟨b, o, none⟩ l (fun j v hj => by rw [add_none]; exact hc j v hj)
theorem appRoom {t e : TypeId} {sz g b o m c n cap : Nat} {cur news : List Value} {k : Value → World → Prop}
    (hu : P.underlying t = some (.slice e)) (hs : (P.info? e).map (·.size) = some sz) (hb : Blk w g e cur) (hc : CellsAt w b o news) (hl : news.length = m * sz) (h1 : news.all isOne = true) (hroom : n + m ≤ cap) (hfit : n * sz + news.length ≤ cur.length)
    (hk : k (.slice (some ⟨g, 0, none⟩) (n + m) cap) (setBlk w g e (over cur (n * sz) news))) :
    RunC P (Builtin.append_ #[t, t] 0 #[.slice (some ⟨g, 0, none⟩) n cap, .slice (some ⟨b, o, none⟩) m c]) w k := by
  obtain ⟨i, hi, rfl⟩ := Option.map_eq_some_iff.1 hs
  have hf := cells_run (P := P) hc
  rw [hl] at hf
  have hst := storeCells_run (P := P) g e news (n * i.size) 0 w cur hb (by simpa using h1) (by simpa using hfit)
  refine ⟨_, _, ?_, hk⟩
  simp [Builtin.append_, underlying, hu, sizeOf, typeInfo, hi, Builtin.lenOf, hroom, Builtin.firstCells, hf, add_none, hst]
theorem clearRow {t e : TypeId} {g o n c : Nat} {z : Value} {cur zs : List Value} {k : Value → World → Prop}
    (hu : P.underlying t = some (.slice e)) (hz : (P.info? e).bind (·.zero) = some z) (hb : Blk w g e cur) (hn : 0 < n) (hzs : (Builtin.zeroCells z.cells n).toList = zs) (h1 : zs.all isOne = true) (hfit : o + zs.length ≤ cur.length)
    (hk : k (.tuple #[]) (setBlk w g e (over cur o zs))) :
    RunC P (Builtin.clear_ #[t] 0 #[.slice (some ⟨g, o, none⟩) n c]) w k := by
  obtain ⟨q, rfl⟩ : ∃ q, n = q + 1 := ⟨n - 1, by omega⟩
  have hst := storeCells_run (P := P) g e zs o 0 w cur hb (by simpa using h1) (by simpa using hfit)
  refine ⟨_, _, ?_, hk⟩
  simp [Builtin.clear_, underlying, hu, zero_run hz, hzs, hst]
theorem copyRow {t tr ty e : TypeId} {sz g o dl dc b o' sl sc : Nat} {cur news : List Value} {k : Value → World → Prop}
    (hu : P.underlying t = some (.slice e)) (hs : (P.info? e).map (·.size) = some sz) (hb : Blk w g e cur) (hc : CellsAt w b o' news) (hl : news.length = Nat.min sl dl * sz) (h1 : news.all isOne = true) (hfit : o + news.length ≤ cur.length)
    (hk : k (goInt (Nat.min sl dl)) (setBlk w g e (over cur o news))) :
    RunC P (Builtin.copy_ #[t, tr] ty #[.slice (some ⟨g, o, none⟩) dl dc, .slice (some ⟨b, o', none⟩) sl sc]) w k := by
  obtain ⟨i, hi, rfl⟩ := Option.map_eq_some_iff.1 hs
  have hf := cells_run (P := P) hc
  rw [hl] at hf
  have hst := storeCells_run (P := P) g e news o 0 w cur hb (by simpa using h1) (by simpa using hfit)
  refine ⟨_, _, ?_, hk⟩
  simp [Builtin.copy_, underlying, hu, sizeOf, typeInfo, hi, Builtin.lenOf, Builtin.firstCells, hf, hst]
theorem appGrowZ {t tn e : TypeId} {sz bytes n m g cap : Nat} {z : Value} {kq : IntKind} {y : Int} {cur : List Value} {k : Value → World → Prop}
    (hu : P.underlying t = some (.slice e)) (hun : P.underlying tn = some (.int .i64)) (hs : (P.info? e).map (fun i => (i.size, i.bytes)) = some (sz, bytes)) (hz : (P.info? e).bind (·.zero) = some z) (hzs : z.cells.size = sz)
    (hb : Blk w g e cur) (hnc : n ≤ cap) (hl : cur.length = cap * sz) (hy : y = (m : Int)) (h0 : 0 < m) (hs0 : 0 < sz) (hno : cap < n + m) (h63 : n + m ≤ maxLen) (hbig : (n + m) * bytes ≤ 140737488355328)
    (hk : ∀ G cap' Z w', Ext No w w' → w.heap.size ≤ G → Blk w' G e (cur.take (n * sz) ++ Z) → n + m ≤ cap' → cap' ≤ maxLen → (cur.take (n * sz) ++ Z).length = cap' * sz → k (.slice (some ⟨G, 0, none⟩) (n + m) cap') w') :
    RunC P (Builtin.append_ #[t, tn] 0 #[.slice (some ⟨g, 0, none⟩) n cap, .int kq y]) w k := by
  subst hy
  obtain ⟨ie, e1, e2⟩ := Option.map_eq_some_iff.1 hs
  obtain ⟨ie', e3, e4⟩ := Option.bind_eq_some_iff.1 hz
  obtain rfl := Option.some.inj (e1.symm.trans e3)
  simp only [Prod.mk.injEq] at e2
  have hle : n * sz ≤ cur.length := by rw [hl]; exact Nat.mul_le_mul_right sz hnc
  have htl : (cur.take (n * sz)).length = n * sz := by rw [List.length_take]; exact Nat.min_eq_left hle
  have hcells : CellsAt w.drew g 0 (cur.take (n * sz)) := fun j v hj => by
    rw [List.getElem?_take] at hj
    split at hj
    · have := hb.cell (o := 0 + j)
      rw [Nat.zero_add] at this ⊢
      exact this.trans hj
    · cases hj
  have hold : (Builtin.firstCells ie.size n (.slice (some ⟨g, 0, none⟩) n cap)).run P w.drew = .ok (cur.take (n * sz)).toArray w.drew := by
    have := cells_run (P := P) hcells
    rw [htl] at this
    simp [Builtin.firstCells, e2.1, this]
  have hr := Lib.run_append_grow_zeros w t tn 0 e ie z kq .i64 hu hun e1 e4 (some ⟨g, 0, none⟩) n cap (cur.take (n * sz)) hold m h0 (by omega) (by omega) (by unfold maxLen at h63; omega) (by
    rw [e2.2]
    have := Nat.mul_le_mul_right bytes (Nat.le_add_left m n)
    omega) (by rw [e2.2]; exact growslice_fits hno hbig)
  have hge := grownCap_ge w (n + m) cap e
  have hzc : ∀ q, (Builtin.zeroCells z.cells q).size = q * sz := fun q => by simp [Builtin.zeroCells, hzs]
  refine ⟨_, _, hr, hk _ _ ((Builtin.zeroCells z.cells m).toList ++ (Builtin.zeroCells z.cells (grownCap w (n + m) cap e - (n + m))).toList) _ ⟨rfl, rfl, rfl, ?_, fun b hb _ => ?_⟩ (Nat.le_refl _) ?_ hge (grownCap_le_maxLen w (n + m) cap e h63) ?_⟩
  · show w.heap.size ≤ (w.heap.push _).size
    rw [Array.size_push]
    omega
  · show (w.heap.push _)[b]? = _
    rw [Array.getElem?_push, if_neg (by omega)]
  · show (w.heap.push _)[w.heap.size]? = _
    rw [Array.getElem?_push, if_pos rfl]
    congr 2
    simp
  · simp only [List.length_append, htl, Array.length_toList, hzc]
    rw [← Nat.add_mul, ← Nat.add_mul]
    congr 1
    omega

theorem sHead {t e : TypeId} {q : IntKind} {i : Int} {g o n c j : Nat} {k : Value → Prop} (hu : P.underlying t = some (.slice e)) (he : (P.info? e).isSome = true) (hi : i = (j : Int)) (hj : j ≤ c)
    (hk : k (.slice (some ⟨g, o, none⟩) j c)) : PureC P (Instr.sliceAt t (.slice (some ⟨g, o, none⟩) n c) none (some (.int q i)) none) k := by
  subst hi
  have ht : P.underlying t = some (.slice (P.elem t)) := by rw [elem_of hu]; exact hu
  refine ⟨_, fun w => ?_, hk⟩
  rw [run_sliceAt_slice w t _ _ _ _ ht, run_slice_h w t _ n c ht q _ (by omega) (by omega), elem_of hu, cellsOf_run he]
  simp [sliced, add_none]
theorem sTail {t e : TypeId} {q : IntKind} {i : Int} {g o n c j sz : Nat} {k : Value → Prop} (hu : P.underlying t = some (.slice e)) (he : (P.info? e).isSome = true) (hsz : P.cellsOf e = sz) (hi : i = (j : Int)) (hj : j ≤ n)
    (hk : k (.slice (some ⟨g, if c = j then o else o + j * sz, none⟩) (n - j) (c - j))) : PureC P (Instr.sliceAt t (.slice (some ⟨g, o, none⟩) n c) (some (.int q i)) none none) k := by
  subst hi
  have ht : P.underlying t = some (.slice (P.elem t)) := by rw [elem_of hu]; exact hu
  refine ⟨_, fun w => ?_, hk⟩
  rw [run_sliceAt_slice w t _ _ _ _ ht, run_slice_l w t _ n c ht q _ (by omega) (by omega), elem_of hu, cellsOf_run he, hsz]
  by_cases h : c = j
  · simp [sliced, h]
  · simp [sliced, h, add_none]
theorem sBoth {t e : TypeId} {q q' : IntKind} {i i' : Int} {g o n c j h sz : Nat} {k : Value → Prop} (hu : P.underlying t = some (.slice e)) (he : (P.info? e).isSome = true) (hsz : P.cellsOf e = sz) (hi : i = (j : Int)) (hi' : i' = (h : Int)) (hj : j ≤ h) (hh : h ≤ c)
    (hk : k (.slice (some ⟨g, if c = j then o else o + j * sz, none⟩) (h - j) (c - j))) : PureC P (Instr.sliceAt t (.slice (some ⟨g, o, none⟩) n c) (some (.int q i)) (some (.int q' i')) none) k := by
  subst hi hi'
  have ht : P.underlying t = some (.slice (P.elem t)) := by rw [elem_of hu]; exact hu
  refine ⟨_, fun w => ?_, hk⟩
  rw [run_sliceAt_slice w t _ _ _ _ ht, run_slice_lh w t _ n c ht q q' _ _ (by omega) (by omega) (by omega), elem_of hu, cellsOf_run he, hsz]
  by_cases h : c = j
  · simp [sliced, h]
  · simp [sliced, h, add_none]
theorem sFull {t e : TypeId} {q q' q'' : IntKind} {i i' i'' : Int} {a : Option Addr} {n c : Nat} {k : Value → Prop} (hu : P.underlying t = some (.slice e)) (he : (P.info? e).isSome = true) (h0 : 0 ≤ i) (hi : i ≤ i') (hi' : i' ≤ i'') (hh : i'' ≤ c)
    (hk : ∀ v, k v) : PureC P (Instr.sliceAt t (.slice a n c) (some (.int q i)) (some (.int q' i')) (some (.int q'' i''))) k := by
  have ht : P.underlying t = some (.slice (P.elem t)) := by rw [elem_of hu]; exact hu
  refine ⟨sliced a i.toNat i'.toNat i''.toNat (P.cellsOf e), fun w => ?_, hk _⟩
  rw [run_sliceAt_slice w t _ _ _ _ ht, run_slice_lhm w t _ n c ht q q' q'' _ _ _ (by omega) (by omega) (by omega) (by omega), elem_of hu, cellsOf_run he]
  rfl
theorem sFrom {t e : TypeId} {q : IntKind} {i : Int} {a : Option Addr} {n c : Nat} {k : Value → Prop} (hu : P.underlying t = some (.slice e)) (he : (P.info? e).isSome = true) (h0 : 0 ≤ i) (hi : i ≤ n)
    (hk : ∀ v, k v) : PureC P (Instr.sliceAt t (.slice a n c) (some (.int q i)) none none) k := by
  have ht : P.underlying t = some (.slice (P.elem t)) := by rw [elem_of hu]; exact hu
  refine ⟨sliced a i.toNat n c (P.cellsOf e), fun w => ?_, hk _⟩
  rw [run_sliceAt_slice w t _ _ _ _ ht, run_slice_l w t _ n c ht q _ (by omega) (by omega), elem_of hu, cellsOf_run he]
  rfl

theorem over_take_at {cs vs : List Value} {o : Nat} (h : o ≤ cs.length) : (over cs o vs).take (o + vs.length) = cs.take o ++ vs := by
  have hl : (cs.take o ++ vs).length = o + vs.length := by rw [List.length_append, List.length_take, Nat.min_eq_left h]
  unfold over
  rw [← hl, List.take_left']
  rfl
theorem over_take_lt {cs vs : List Value} {o p : Nat} (h : o ≤ cs.length) (hp : p ≤ o) : (over cs o vs).take p = cs.take p := by
  have h1 : ((over cs o vs).take (o + vs.length)).take p = (cs.take o ++ vs).take p := by rw [over_take_at h]
  rw [List.take_take, Nat.min_eq_left (by omega)] at h1
  rw [h1, List.take_append_of_le_length (by rw [List.length_take, Nat.min_eq_left h]; exact hp), List.take_take, Nat.min_eq_left hp]
theorem over_drop_at {cs vs : List Value} {o : Nat} (h : o ≤ cs.length) : (over cs o vs).drop o = vs ++ cs.drop (o + vs.length) := by
  unfold over
  rw [List.append_assoc, List.drop_left']
  rw [List.length_take, Nat.min_eq_left h]
theorem del_list {cur B Z : List Value} {p : Nat} (h : p + B.length ≤ cur.length) : (over (over cur p B) (p + B.length) Z).take (p + B.length) = cur.take p ++ B := by
  rw [over_take_lt (by rw [over_len h]; exact h) (Nat.le_refl _), over_take_at (by omega)]
theorem ins_list {cur B X : List Value} {p : Nat} (h : p + X.length + B.length ≤ cur.length) : (over (over cur (p + X.length) B) p X).take (p + X.length + B.length) = cur.take p ++ X ++ B := by
  have h1 : (over cur (p + X.length) B).take p = cur.take p := over_take_lt (by omega) (by omega)
  have h2 : (over cur (p + X.length) B).drop (p + X.length) = B ++ cur.drop (p + X.length + B.length) := over_drop_at (by omega)
  have h3 : over (over cur (p + X.length) B) p X = (cur.take p ++ X ++ B) ++ cur.drop (p + X.length + B.length) := by
    show (over cur (p + X.length) B).take p ++ X ++ (over cur (p + X.length) B).drop (p + X.length) = _
    rw [h1, h2]
    simp
  have hl : (cur.take p ++ X ++ B).length = p + X.length + B.length := by rw [List.length_append, List.length_append, List.length_take, Nat.min_eq_left (by omega)]
  rw [h3, ← hl, List.take_left']
  rfl
theorem ins_list2 {cur B X : List Value} {p : Nat} (h : p + X.length + B.length ≤ cur.length) : (over (over cur p X) (p + X.length) B).take (p + X.length + B.length) = cur.take p ++ X ++ B := by
  rw [over_take_at (by rw [over_len (by omega)]; omega), over_take_at (by omega)]
theorem St.setB {w0 w : World} {S : Nat → Prop} {H : List Ent} (h : St w0 S w H) (i : Nat) {b : Nat} {t : TypeId} {cs : List Value} (hi : H[i]? = some (Ev.blk b t cs)) (cs' : List Value) : St w0 S (setBlk w b t cs') (H.set i (Ev.blk b t cs')) :=
  h.upd i hi (Ext.set (S := (· = b)) (b := b) rfl t _) (fun c hc => by simp [Ev.blk, hc]) (blk_local _ _ _) (setBlk_blk (h.blk i hi).lt) (fun c hc => .inl hc)
end Go.Proofs.YtoaghhcjlfiflaaGreatDoor.Ev

namespace Go.Proofs.YtoaghhcjlfiflaaGreatDoor
open Go Ev
theorem Ev.Slc.here {α : Type} {w w' : World} {sz n : Nat} {enc : α → List Value} {G : α → Prop} {a : Option Addr} {xs : List α} (h : Slc w sz enc G a n xs) (he : 0 < n → ∀ b o, a = some ⟨b, o, none⟩ → w'.heap[b]? = w.heap[b]?) : Slc w' sz enc G a n xs := by
  refine ⟨h.len, h.max, fun k x hk => ?_, h.good⟩
  obtain ⟨b, o, ha, hb, hc⟩ := h.cells k x hk
  have hn : 0 < n := by
    have := (List.getElem?_eq_some_iff.1 hk).1
    rw [h.len] at this
    omega
  have e := he hn b o ha
  refine ⟨b, o, ha, ?_, fun i v hi => ?_⟩
  · have : w'.heap[b]? = some w.heap[b] := e.trans (Array.getElem?_eq_getElem hb)
    exact (Array.getElem?_eq_some_iff.1 this).1
  · have h1 : w'.cell? ⟨b, o + k * sz + i, none⟩ = w.cell? ⟨b, o + k * sz + i, none⟩ := by simp only [World.cell?, e]
    exact h1.trans (hc i v hi)
structure NoteIs (x : NoteV) (y : NoteS) : Prop where
  fro : x.fro = y.fro
  life : x.life = y.life
  epoch : x.epoch = y.epoch
  claim : x.claim = y.claim
def footN (x : NoteV) : List Nat := if x.n = 0 then [] else (Value.slice x.a x.n x.c).ownBlock.toList
def cellsE (vs : List NoteV) (ns : List NoteS) : Ent := ⟨vs.flatMap footN, fun w => vs.length = ns.length ∧ ∀ (k : Nat) x y, vs[k]? = some x → ns[k]? = some y → NoteIs x y ∧ Slc w 10 encCell (fun _ => True) x.a x.n y.cells⟩
theorem footN_at {x : NoteV} {b o : Nat} (hn : 0 < x.n) (ha : x.a = some ⟨b, o, none⟩) : b ∈ footN x := by
  unfold footN
  rw [if_neg (by omega), ha]
  simp [Value.ownBlock]
theorem cellsE_local {vs : List NoteV} {ns : List NoteS} : (cellsE vs ns).Local := by
  intro w w' hb h
  refine ⟨h.1, fun k x y hx hy => ⟨(h.2 k x y hx hy).1, (h.2 k x y hx hy).2.here fun hn b o ha => hb b ?_⟩⟩
  exact List.mem_flatMap.2 ⟨x, List.mem_of_getElem? hx, footN_at hn ha⟩
theorem cellsE_nil (w : World) : (cellsE [] []).holds w := ⟨rfl, fun k x y hx _ => by simp at hx⟩
theorem cellsE_one {w : World} {x : NoteV} {y : NoteS} (h : NoteIs x y) (hs : Slc w 10 encCell (fun _ => True) x.a x.n y.cells) : (cellsE [x] [y]).holds w := by
  refine ⟨rfl, fun k u v hu hv => ?_⟩
  have hk : k = 0 := by
    have := (List.getElem?_eq_some_iff.1 hu).1
    simp at this
    exact this
  subst hk
  simp only [List.getElem?_cons_zero, Option.some.injEq] at hu hv
  subst hu hv
  exact ⟨h, hs⟩
theorem cellsE_get {w : World} {vs : List NoteV} {ns : List NoteS} (h : (cellsE vs ns).holds w) {k : Nat} {x : NoteV} {y : NoteS} (hx : vs[k]? = some x) (hy : ns[k]? = some y) : NoteIs x y ∧ Slc w 10 encCell (fun _ => True) x.a x.n y.cells := h.2 k x y hx hy
theorem cellsE_foot {vs : List NoteV} {ns : List NoteS} {b : Nat} : b ∈ (cellsE vs ns).foot ↔ ∃ x ∈ vs, b ∈ footN x := List.mem_flatMap
theorem cellsE_erase {w : World} {vs : List NoteV} {ns : List NoteS} (h : (cellsE vs ns).holds w) (k : Nat) : (cellsE (vs.eraseIdx k) (ns.eraseIdx k)).holds w := by
  refine ⟨by rw [List.length_eraseIdx, List.length_eraseIdx, h.1], fun i x y hx hy => ?_⟩
  rw [List.getElem?_eraseIdx] at hx hy
  split at hx
  · exact h.2 i x y hx (by rwa [if_pos (by assumption)] at hy)
  · exact h.2 (i + 1) x y hx (by rwa [if_neg (by assumption)] at hy)
theorem cellsE_app {w : World} {vs us : List NoteV} {ns ms : List NoteS} (h : (cellsE vs ns).holds w) (g : (cellsE us ms).holds w) : (cellsE (vs ++ us) (ns ++ ms)).holds w := by
  have hl := h.1
  refine ⟨by rw [List.length_append, List.length_append, hl, g.1], fun i x y hx hy => ?_⟩
  by_cases hi : i < vs.length
  · rw [List.getElem?_append_left hi] at hx
    rw [List.getElem?_append_left (by omega)] at hy
    exact h.2 i x y hx hy
  · rw [List.getElem?_append_right (by omega)] at hx
    rw [List.getElem?_append_right (by omega), ← hl] at hy
    exact g.2 _ x y hx hy
theorem cellsE_take {w : World} {vs : List NoteV} {ns : List NoteS} (h : (cellsE vs ns).holds w) (k : Nat) : (cellsE (vs.take k) (ns.take k)).holds w := by
  refine ⟨by rw [List.length_take, List.length_take, h.1], fun i x y hx hy => ?_⟩
  rw [List.getElem?_take] at hx hy
  split at hx
  · exact h.2 i x y hx (by rwa [if_pos (by assumption)] at hy)
  · cases hx
theorem cellsE_drop {w : World} {vs : List NoteV} {ns : List NoteS} (h : (cellsE vs ns).holds w) (k : Nat) : (cellsE (vs.drop k) (ns.drop k)).holds w := by
  refine ⟨by rw [List.length_drop, List.length_drop, h.1], fun i x y hx hy => ?_⟩
  rw [List.getElem?_drop] at hx hy
  exact h.2 _ x y hx hy

section
variable {w : World}
theorem cclone_ok {G : CellS → Prop} {a : Option Addr} {n c : Nat} {xs : List CellS} (hx : Slc w 10 encCell G a n xs) (hn : n ≤ 1000) :
    CallC Tryz.prog 103 #[.slice a n c] w fun v w' => ∃ a' c', v = .slice a' n c' ∧ Ext No w w' ∧ (ownL 59 10 encCell v xs).holds w' ∧ Fresh w w' v := by
  have hl := hx.len
  refine fn_intro tabOk Tryz.func103 (by kernel_rfl) rfl Tryz.ntmps103 (Nat.le_of_ble_eq_true rfl) ?_
  have hS := St.start w No
  cases a with
  | none =>
    have hn0 : n = 0 := by
      rcases Nat.eq_zero_or_pos n with h | h
      · exact h
      · obtain ⟨_, _, _, _, _, h, _⟩ := hx.at h
        cases h
    subst hn0
    obtain rfl : xs = [] := List.length_eq_zero_iff.1 hl
    repeat' ((conv => whnf); first | refine RetC.mk ?_ | refine NzC.mk (by decide) ?_ | refine RngC.mk (by omega) (by omega) ?_ | refine IdxC.mk (by omega) (by omega) ?_ | refine brD (fun _ => ?_) (fun _ => ?_) | refine brND (fun _ => ?_) (fun _ => ?_) | refine brN (fun _ => ?_) (fun _ => ?_) | refine brI (fun _ => ?_) (fun _ => ?_))
    have hS := hS.addNil 59 10 encCell
    exact ⟨none, 0, rfl, hS.ext, hS.get 0 rfl, hS.freshAt 0 rfl⟩
  | some a0 =>
    (conv => whnf)
    refine hS.lit0 Tryz.underlying54 (sz := 10) (by kernel_rfl) (fun b0 w1 hS => ?_)
    (conv => whnf)
    refine hS.appS codCell 0 (xs := []) Tryz.underlying54 (bytes := 80) (by kernel_rfl) (z := .agg (encCell ⟨0, 0, noFlow⟩).toArray) (by kernel_rfl) rfl rfl (hx.no hS.ext) (by unfold maxLen; simp; omega) (by simp; omega) (fun a' c' w' hS => ?_)
    repeat' ((conv => whnf); first | refine RetC.mk ?_ | refine NzC.mk (by decide) ?_ | refine RngC.mk (by omega) (by omega) ?_ | refine IdxC.mk (by omega) (by omega) ?_ | refine brD (fun _ => ?_) (fun _ => ?_) | refine brND (fun _ => ?_) (fun _ => ?_) | refine brN (fun _ => ?_) (fun _ => ?_) | refine brI (fun _ => ?_) (fun _ => ?_))
    have hn0 : ([] : List CellS).length + n = n := by simp
    rw [hn0] at hS ⊢
    exact ⟨a', c', rfl, hS.ext, hS.get 0 rfl, hS.freshAt 0 rfl⟩
def NoteV.with (x : NoteV) (a : Option Addr) (c : Nat) : NoteV := ⟨x.fro, x.life, x.epoch, x.claim, a, x.n, c⟩
theorem wown_ok {G : CellS → Prop} {x : NoteV} {cs : List CellS} (hx : Slc w 10 encCell G x.a x.n cs) (hn : x.n ≤ 1000) :
    CallC Tryz.prog 59 #[.agg (encNV x).toArray] w fun v w' => ∃ a' c', v = .agg (encNV (x.with a' c')).toArray ∧ Ext No w w' ∧ (ownL 59 10 encCell (.slice a' x.n c') cs).holds w' ∧ Fresh w w' (.slice a' x.n c') := by
  refine fn_intro tabOk Tryz.func59 (by kernel_rfl) rfl Tryz.ntmps59 (Nat.le_of_ble_eq_true rfl) ?_
  have hS := St.start w No
  (conv => whnf)
  refine hS.new (fun bx w1 hbx hS => ?_)
  (conv => whnf)
  refine hS.new (fun br w2 hbr hS => ?_)
  replace hS : St w No w2 [blk bx 107 (encNV x), blk br 107 (encNV noNV)] := hS
  (conv => whnf)
  refine hS.ld 0 rfl rfl ?_
  (conv => whnf)
  refine (cclone_ok (hx.no hS.ext) hn).mono ?_
  rintro v w3 ⟨a', c', rfl, hx3, ho, hf⟩
  have hf2 : Fresh w w3 (.slice a' x.n c') := fun g hg => ⟨Nat.le_trans hS.ext.size (hf g hg).1, (hf g hg).2⟩
  replace hS := hS.made hx3 ownL_local ho (fun g hg => hf g (by simpa [ownL, own] using hg))
  clear hx3 ho hf
  (conv => whnf)
  refine hS.st 0 rfl (Nat.le_of_ble_eq_true rfl) rfl (fun w4 hS => ?_)
  (conv => whnf)
  refine hS.laX 0 rfl rfl ?_
  (conv => whnf)
  refine hS.st 1 rfl (Nat.le_of_ble_eq_true rfl) rfl (fun w5 hS => ?_)
  (conv => whnf)
  refine hS.laX 1 rfl rfl ?_
  repeat' ((conv => whnf); first | refine RetC.mk ?_ | refine NzC.mk (by decide) ?_ | refine RngC.mk (by omega) (by omega) ?_ | refine IdxC.mk (by omega) (by omega) ?_ | refine brD (fun _ => ?_) (fun _ => ?_) | refine brND (fun _ => ?_) (fun _ => ?_) | refine brN (fun _ => ?_) (fun _ => ?_) | refine brI (fun _ => ?_) (fun _ => ?_))
  exact ⟨a', c', rfl, hS.ext, hS.get 2 rfl, hS.freshAt 2 rfl⟩
theorem flat_takeC {α : Type} {sz : Nat} {enc : α → List Value} (C : Codec sz enc) (xs : List α) (k : Nat) : (xs.flatMap enc).take (k * sz) = (xs.take k).flatMap enc := by
  by_cases hk : k ≤ xs.length
  · conv => lhs; rw [← List.take_append_drop k xs, List.flatMap_append]
    have hl : ((xs.take k).flatMap enc).length = k * sz := by rw [flat_len C, List.length_take, Nat.min_eq_left hk]
    rw [← hl, List.take_left']
    rfl
  · have h1 : xs.length ≤ k := by omega
    rw [List.take_of_length_le h1, List.take_of_length_le]
    rw [flat_len C]
    exact Nat.mul_le_mul_right sz h1
theorem flat_dropC {α : Type} {sz : Nat} {enc : α → List Value} (C : Codec sz enc) (xs : List α) (k : Nat) : (xs.flatMap enc).drop (k * sz) = (xs.drop k).flatMap enc := by
  by_cases hk : k ≤ xs.length
  · conv => lhs; rw [← List.take_append_drop k xs, List.flatMap_append]
    have hl : ((xs.take k).flatMap enc).length = k * sz := by rw [flat_len C, List.length_take, Nat.min_eq_left hk]
    rw [← hl, List.drop_left']
    rfl
  · have h1 : xs.length ≤ k := by omega
    rw [List.drop_of_length_le h1, List.drop_of_length_le]
    · rfl
    rw [flat_len C]
    exact Nat.mul_le_mul_right sz h1
theorem CellsAt_of {b o : Nat} {t : TypeId} {cur l : List Value} (hb : Blk w b t cur) (h : ∀ i v, l[i]? = some v → cur[o + i]? = some v) : CellsAt w b o l := fun i v hi => by
  rw [hb.cell]
  exact h i v hi
end
end Go.Proofs.YtoaghhcjlfiflaaGreatDoor

namespace Go.Proofs.YtoaghhcjlfiflaaGreatDoor
open Go Ev
section
variable {w : World}
theorem Ev.Blk.shape {b : Nat} {t : TypeId} {cs : List Value} (h : Blk w b t cs) : w.shape? b = some (t, cs.length) := by
  unfold Blk at h
  simp [World.shape?, h]
theorem x_overlaps {g b o o' n c n' c' : Nat} {t1 t2 : TypeId} {cs1 cs2 : List Value} (hb : Blk w b t1 cs1) (hg : Blk w g t2 cs2) (hne : b ≠ g) (hp : cs2.length ≠ 0) :
    (callFunc 142 #[.slice (some ⟨b, o, none⟩) n c, .slice (some ⟨g, o', none⟩) n' c']).run Tryz.prog w = .ok (.value (.bool false)) w := by
  have hz : ∀ w, (Go.sizeOf 107).run Tryz.prog w = .ok 5 w := fun w => (tabOk 107 _ rfl).size_run w
  rw [run_callFunc_extern Tryz.func142 (by kernel_rfl) (by kernel_rfl) (by kernel_rfl) (e := Extern.SlicesOverlaps.overlaps #[81, 81] #[4]) (by kernel_rfl),
    Lib.run_overlaps_apart w 81 4 107 Tryz.underlying81 5 hz ⟨b, o, none⟩ ⟨g, o', none⟩ n c n' c' hne t1 t2 cs1.length cs2.length hb.shape hg.shape hp (hb.frozen o) (hb.frozen cs1.length)]
  rfl
theorem ndel_ok {a : Option Addr} {c : Nat} {vs : List NoteV} {i : Nat} (ho : (ownL 107 5 encNV (.slice a vs.length c) vs).holds w) (hi : i < vs.length) (hm : vs.length ≤ 1000) :
    CallC Tryz.prog 53 #[.slice a vs.length c, .int .i64 (i : Int), .int .i64 ((i : Int) + 1)] w fun v w' =>
      v = .slice a (vs.length - 1) c ∧ Ext (fun b => (Value.slice a vs.length c).ownBlock = some b) w w' ∧ (ownL 107 5 encNV (.slice a (vs.length - 1) c) (vs.eraseIdx i)).holds w' := by
  rcases own_blk ho with ⟨_, _, _, h0, _⟩ | ⟨g, cur, rfl, _, hb, hnc, hcm, hl, ht⟩
  · omega
  have hS := (St.start w (fun b => (Value.slice (some ⟨g, 0, none⟩) vs.length c).ownBlock = some b)).add (blk_local g _ _) hb (fun b hb' => by obtain rfl := List.mem_singleton.1 hb'; exact ⟨.inl rfl, hb.lt⟩) (by simp)
  have hB : ((vs.drop (i + 1)).flatMap encNV).length = (vs.length - (i + 1)) * 5 := by rw [flat_len codNote, List.length_drop]
  have hA : cur.take (i * 5) = (vs.take i).flatMap encNV := by
    rw [← flat_takeC codNote, ← ht, List.take_take, Nat.min_eq_left (by omega)]
  have hcB : ∀ j v, ((vs.drop (i + 1)).flatMap encNV)[j]? = some v → cur[(i + 1) * 5 + j]? = some v := fun j v hj => by
    rw [← flat_dropC codNote, List.getElem?_drop, ← ht, List.getElem?_take] at hj
    split at hj
    · exact hj
    · cases hj
  refine fn_intro tabOk Tryz.func53 (by kernel_rfl) rfl Tryz.ntmps53 (Nat.le_of_ble_eq_true rfl) ?_
  (conv => whnf)
  refine sFull Tryz.underlying81 (by kernel_rfl) (by omega) (by omega) (by omega) (by omega) (fun v0 => ?_)
  (conv => whnf)
  refine brD (fun h => by omega) (fun _ => ?_)
  (conv => whnf)
  (refine drawS tabOk mixed [] (fun b => b = g) [0, 1, 2, 3, 4, 5, 6, 7] (by kernel_rfl) ?_; rintro w1 rfl; replace hS := hS.drew)
  have hK := hS.ref (fun b => b = g)
  (conv => whnf)
  refine sHead Tryz.underlying81 (by kernel_rfl) rfl (by omega) ?_
  (conv => whnf)
  refine sTail (j := i + 1) (sz := 5) Tryz.underlying81 (by kernel_rfl) (by kernel_rfl) (by omega) (by omega) ?_
  (conv => whnf)
  refine appRoom (sz := 5) (cur := cur) (news := (vs.drop (i + 1)).flatMap encNV) Tryz.underlying81 (by kernel_rfl) (hS.blk 0 rfl) ?_ hB (flat_one codNote _) (by omega) (by rw [hB, hl]; omega) ?_
  · by_cases hc : c = i + 1
    · have : (vs.drop (i + 1)).flatMap encNV = [] := List.length_eq_zero_iff.1 (by rw [hB]; omega)
      rw [this]
      intro j v hj
      simp at hj
    · rw [if_neg hc]
      exact CellsAt_of (hS.blk 0 rfl) (fun j v hj => by rw [Nat.zero_add]; exact hcB j v hj)
  replace hK := hK.trans (Ext.set (S := fun b => b = g) (b := g) rfl 107 (over cur (i * 5) ((vs.drop (i + 1)).flatMap encNV)))
  refine KeepC.mk hK ?_
  replace hS := hS.setB 0 rfl (over cur (i * 5) ((vs.drop (i + 1)).flatMap encNV))
  clear hK
  have hn1 : i + (vs.length - (i + 1)) = vs.length - 1 := by omega
  have hlB : (over cur (i * 5) ((vs.drop (i + 1)).flatMap encNV)).length = c * 5 := by rw [over_len (by rw [hB, hl]; omega), hl]
  rw [hn1]
  (conv => whnf)
  refine sBoth (j := vs.length - 1) (h := vs.length) (sz := 5) Tryz.underlying81 (by kernel_rfl) (by kernel_rfl) rfl rfl (by omega) (by omega) ?_
  rw [if_neg (by omega)]
  (conv => whnf)
  refine clearRow (zs := encNV noNV) (cur := over cur (i * 5) ((vs.drop (i + 1)).flatMap encNV)) Tryz.underlying81 (z := .agg (encNV noNV).toArray) (by kernel_rfl) (hS.blk 0 rfl) (by omega) (by
    rw [show vs.length - (vs.length - 1) = 1 by omega]
    show ((Array.range (1 * 5)).map _).toList = _
    rw [zeros_eq (.agg (encNV noNV).toArray)]
    rfl) rfl (by rw [hlB]; simp only [encNV, List.length_cons, List.length_nil]; omega) ?_
  replace hS := hS.setB 0 rfl (over (over cur (i * 5) ((vs.drop (i + 1)).flatMap encNV)) (0 + (vs.length - 1) * 5) (encNV noNV))
  repeat' ((conv => whnf); first | refine RetC.mk ?_ | refine NzC.mk (by decide) ?_ | refine RngC.mk (by omega) (by omega) ?_ | refine IdxC.mk (by omega) (by omega) ?_ | refine brD (fun _ => ?_) (fun _ => ?_) | refine brND (fun _ => ?_) (fun _ => ?_) | refine brN (fun _ => ?_) (fun _ => ?_) | refine brI (fun _ => ?_) (fun _ => ?_))
  refine ⟨rfl, hS.ext, ?_⟩
  have hle : (vs.eraseIdx i).length = vs.length - 1 := by rw [List.length_eraseIdx, if_pos hi]
  have := blk_own (sz := 5) (n := vs.length - 1) (cap := c) (xs := (vs.eraseIdx i).flatMap encNV) (hS.blk 0 rfl) (by omega) hcm (by rw [over_len (by rw [hlB]; simp only [encNV, List.length_cons, List.length_nil]; omega), hlB]) (by
    have h5 : (vs.length - 1) * 5 = i * 5 + ((vs.drop (i + 1)).flatMap encNV).length := by rw [hB]; omega
    rw [Nat.zero_add, h5, del_list (by rw [hB, hl]; omega), hA, List.eraseIdx_eq_take_drop_succ, List.flatMap_append])
  unfold ownL
  rw [hle]
  exact this
theorem nins_ok {a : Option Addr} {c b k : Nat} {vs : List NoteV} {x : NoteV} (hH : Has w [ownL 107 5 encNV (.slice a vs.length c) vs, blk b 107 (encNV x)]) (hk : k ≤ vs.length) (hm : vs.length ≤ 1000) :
    CallC Tryz.prog 97 #[.slice a vs.length c, .int .i64 (k : Int), .slice (some ⟨b, 0, none⟩) 1 1] w fun v w' =>
      ∃ a' c', v = .slice a' (vs.length + 1) c' ∧ Turns w w' [ownL 107 5 encNV (.slice a vs.length c) vs, blk b 107 (encNV x)] [ownL 107 5 encNV (.slice a' (vs.length + 1) c') (vs.take k ++ x :: vs.drop k), blk b 107 (encNV x)] := by
  have ho : (ownL 107 5 encNV (.slice a vs.length c) vs).holds w := hH.get 0 rfl
  have hcap : vs.length ≤ c := by
    rcases own_blk ho with ⟨_, h, _, h0, _⟩ | ⟨_, _, _, _, _, h, _⟩
    · omega
    · exact h
  refine fn_intro tabOk Tryz.func97 (by kernel_rfl) rfl Tryz.ntmps97 (Nat.le_of_ble_eq_true rfl) ?_
  have hS := hH.start
  (conv => whnf)
  refine sFrom Tryz.underlying81 (by kernel_rfl) (by omega) (by omega) (fun v0 => ?_)
  (conv => whnf)
  refine brD (fun h => ?_) (fun h => ?_)
  · obtain rfl : k = vs.length := by omega
    (conv => whnf)
    refine hS.appS codNote 0 (ys := [x]) (G := fun _ => True) Tryz.underlying81 (bytes := 56) (by kernel_rfl) (z := .agg (encNV noNV).toArray) (by kernel_rfl) rfl rfl (Slc.of_blk codNote (hS.blk 1 rfl) rfl (by simp) (fun _ _ => trivial) rfl) (by unfold maxLen; omega) (by omega) (fun a2 c2 w4 hS => ?_)
    repeat' ((conv => whnf); first | refine RetC.mk ?_ | refine NzC.mk (by decide) ?_ | refine RngC.mk (by omega) (by omega) ?_ | refine IdxC.mk (by omega) (by omega) ?_ | refine brD (fun _ => ?_) (fun _ => ?_) | refine brND (fun _ => ?_) (fun _ => ?_) | refine brN (fun _ => ?_) (fun _ => ?_) | refine brI (fun _ => ?_) (fun _ => ?_))
    refine ⟨a2, c2, rfl, ?_⟩
    rw [List.take_length, List.drop_length]
    exact St.turns hS
  have hkn : k < vs.length := by omega
  rcases own_blk ho with ⟨_, _, _, h0, _⟩ | ⟨g, cur, rfl, _, hb, hnc, hcm, hl, ht⟩
  · omega
  clear hcap
  have hA : cur.take (k * 5) = (vs.take k).flatMap encNV := by
    rw [← flat_takeC codNote, ← ht, List.take_take, Nat.min_eq_left (by omega)]
  have hB : ((vs.drop k).flatMap encNV).length = (vs.length - k) * 5 := by rw [flat_len codNote, List.length_drop]
  have hX : (encNV x).length = 5 := rfl
  have hcB : ∀ j v, ((vs.drop k).flatMap encNV)[j]? = some v → cur[k * 5 + j]? = some v := fun j v hj => by
    rw [← flat_dropC codNote, List.getElem?_drop, ← ht, List.getElem?_take] at hj
    split at hj
    · exact hj
    · cases hj
  have hfin : (vs.length + 1) * 5 = k * 5 + (encNV x).length + ((vs.drop k).flatMap encNV).length := by rw [hX, hB]; omega
  have hk1 : (k + 1) * 5 = k * 5 + (encNV x).length := by rw [hX]; omega
  have hflat : (vs.take k ++ x :: vs.drop k).flatMap encNV = (vs.take k).flatMap encNV ++ encNV x ++ (vs.drop k).flatMap encNV := by simp
  have hlen : (vs.take k ++ x :: vs.drop k).length = vs.length + 1 := by simp; omega
  have hgf : ∀ n' c' (xs : List NoteV), (ownL 107 5 encNV (.slice (some ⟨g, 0, none⟩) n' c') xs).foot = [g] := fun n' c' xs => by simp [ownL, own, Value.ownBlock]
  have hne : g ≠ b := fun h => hS.apartAt 0 1 rfl rfl (by decide) g (by rw [hgf]; exact List.mem_singleton.2 rfl) (by rw [h]; exact List.mem_singleton.2 rfl)
  replace hS : St w (inF [ownL 107 5 encNV (.slice (some ⟨g, 0, none⟩) vs.length c) vs, blk b 107 (encNV x)]) w [blk g 107 cur, blk b 107 (encNV x)] :=
    hS.upd 0 rfl (T := No) (Ext.refl _ _) (fun _ h => h.elim) (blk_local _ _ _) hb (fun d hd => .inl (by rw [hgf]; exact hd))
  (conv => whnf)
  refine RngC.mk (by omega) (by omega) ?_
  (conv => whnf)
  refine brD (fun h3 => ?_) (fun h3 => ?_)
  · (conv => whnf)
    refine sHead Tryz.underlying81 (by kernel_rfl) rfl (by omega) ?_
    (conv => whnf)
    refine RngC.mk (by omega) (by omega) ?_
    (conv => whnf)
    refine RngC.mk (by omega) (by omega) ?_
    (conv => whnf)
    refine appGrowZ (sz := 5) (bytes := 56) (m := vs.length + 1 - k) (cur := cur) Tryz.underlying81 Tryz.underlying3 (by kernel_rfl) (z := .agg (encNV noNV).toArray) (by kernel_rfl) rfl (hS.blk 0 rfl) (by omega) hl (by omega) (by omega) (by omega) (by omega) (by unfold maxLen; omega) (by omega) (fun G cap' Z w1 hx1 hG hB1 hc1 hc2 hl1 => ?_)
    replace hS := hS.made hx1 (blk_local _ _ _) hB1 (by simp [blk]; exact ⟨hG, hB1.lt⟩)
    rw [hA] at hS hB1 hl1
    rw [show k + (vs.length + 1 - k) = vs.length + 1 by omega]
    have hA1 : ((vs.take k).flatMap encNV ++ Z).take (k * 5) = (vs.take k).flatMap encNV := by
      rw [List.take_append_of_le_length (by rw [flat_len codNote, List.length_take]; omega), List.take_of_length_le (by rw [flat_len codNote, List.length_take]; omega)]
    generalize (vs.take k).flatMap encNV ++ Z = cur1 at hS hl1 hA1
    clear hx1 hB1
    (conv => whnf)
    refine sTail (j := k) (sz := 5) Tryz.underlying81 (by kernel_rfl) (by kernel_rfl) rfl (by omega) ?_
    rw [if_neg (by omega)]
    (conv => whnf)
    refine copyRow (sz := 5) (cur := cur1) (news := encNV x) Tryz.underlying81 (by kernel_rfl) (hS.blk 2 rfl) (CellsAt_of (hS.blk 1 rfl) (fun j v hj => by rw [Nat.zero_add]; exact hj)) (by rw [show Nat.min 1 (vs.length + 1 - k) = 1 from Nat.min_eq_left (by omega)]; rfl) rfl (by rw [hX, hl1]; omega) ?_
    replace hS := hS.setB 2 rfl (over cur1 (0 + k * 5) (encNV x))
    (conv => whnf)
    (refine drawS tabOk mixed [] (fun b => b = G) [0, 1, 2, 3, 4, 5, 6, 7, 8] (by kernel_rfl) ?_; rintro w1 rfl; replace hS := hS.drew)
    have hK := hS.ref (fun b => b = G)
    (conv => whnf)
    refine RngC.mk (by omega) (by omega) ?_
    (conv => whnf)
    refine sTail (j := k + 1) (sz := 5) Tryz.underlying81 (by kernel_rfl) (by kernel_rfl) (by omega) (by omega) ?_
    (conv => whnf)
    refine sTail (j := k) (sz := 5) Tryz.underlying81 (by kernel_rfl) (by kernel_rfl) rfl (by omega) ?_
    rw [if_neg (by omega), if_neg (by omega)]
    (conv => whnf)
    have hl2 : (over cur1 (0 + k * 5) (encNV x)).length = cap' * 5 := by rw [over_len (by rw [hX, hl1]; omega), hl1]
    refine copyRow (sz := 5) (cur := over cur1 (0 + k * 5) (encNV x)) (news := (vs.drop k).flatMap encNV) Tryz.underlying81 (by kernel_rfl) (hS.blk 2 rfl) (CellsAt_of (hS.blk 0 rfl) (fun j v hj => by rw [Nat.zero_add]; exact hcB j v hj)) (by rw [hB]; congr 1; rw [show vs.length + 1 - (k + 1) = vs.length - k by omega]; exact (Nat.min_self _).symm) (flat_one codNote _) (by rw [hB, hl2]; omega) ?_
    replace hK := hK.trans (Ext.set (S := fun b => b = G) (b := G) rfl 107 (over (over cur1 (0 + k * 5) (encNV x)) (0 + (k + 1) * 5) ((vs.drop k).flatMap encNV)))
    refine KeepC.mk hK ?_
    replace hS := hS.setB 2 rfl (over (over cur1 (0 + k * 5) (encNV x)) (0 + (k + 1) * 5) ((vs.drop k).flatMap encNV))
    repeat' ((conv => whnf); first | refine RetC.mk ?_ | refine NzC.mk (by decide) ?_ | refine RngC.mk (by omega) (by omega) ?_ | refine IdxC.mk (by omega) (by omega) ?_ | refine brD (fun _ => ?_) (fun _ => ?_) | refine brND (fun _ => ?_) (fun _ => ?_) | refine brN (fun _ => ?_) (fun _ => ?_) | refine brI (fun _ => ?_) (fun _ => ?_))
    have hrow := blk_own (sz := 5) (n := vs.length + 1) (cap := cap') (xs := (vs.take k ++ x :: vs.drop k).flatMap encNV) (hS.blk 2 rfl) (by omega) hc2 (by rw [over_len (by rw [hB, hl2]; omega), hl2]) (by
      rw [Nat.zero_add, Nat.zero_add, hfin, hk1, ins_list2 (by rw [hX, hB, hl1]; omega), hA1, hflat])
    have hS2 := (hS.upd 2 rfl (e' := ownL 107 5 encNV (.slice (some ⟨G, 0, none⟩) (vs.length + 1) cap') (vs.take k ++ x :: vs.drop k)) (T := No) (Ext.refl _ _) (fun _ h => h.elim) ownL_local (by unfold ownL; rw [hlen]; exact hrow) (fun d hd => .inl (by rw [show (ownL 107 5 encNV (.slice (some ⟨G, 0, none⟩) (vs.length + 1) cap') (vs.take k ++ x :: vs.drop k)).foot = [G] by simp [ownL, own, Value.ownBlock]] at hd; exact hd))).sel [2, 1] (by decide)
    exact ⟨_, _, rfl, St.turns hS2⟩
  · (conv => whnf)
    refine RngC.mk (by omega) (by omega) ?_
    (conv => whnf)
    refine sHead (j := vs.length + 1) Tryz.underlying81 (by kernel_rfl) (by omega) (by omega) ?_
    (conv => whnf)
    refine RngC.mk (by omega) (by omega) ?_
    (conv => whnf)
    refine sTail (j := k + 1) (sz := 5) Tryz.underlying81 (by kernel_rfl) (by kernel_rfl) (by omega) (by omega) ?_
    (conv => whnf)
    refine CallC.extern (x_overlaps (hS.blk 1 rfl) (hS.blk 0 rfl) (Ne.symm hne) (by rw [hl]; omega)) ?_
    (conv => whnf)
    (refine drawS tabOk mixed [] (fun b => b = g) [0, 1, 2, 3, 4, 5, 6, 7, 8] (by kernel_rfl) ?_; rintro w1 rfl; replace hS := hS.drew)
    have hK := hS.ref (fun b => b = g)
    (conv => whnf)
    refine RngC.mk (by omega) (by omega) ?_
    (conv => whnf)
    refine sTail (j := k + 1) (sz := 5) Tryz.underlying81 (by kernel_rfl) (by kernel_rfl) (by omega) (by omega) ?_
    (conv => whnf)
    refine sTail (j := k) (sz := 5) Tryz.underlying81 (by kernel_rfl) (by kernel_rfl) rfl (by omega) ?_
    rw [if_neg (by omega)]
    have hof : (if c = k + 1 then 0 else 0 + (k + 1) * 5) = 0 + (k + 1) * 5 := if_neg (by omega)
    rw [hof]
    (conv => whnf)
    refine copyRow (sz := 5) (cur := cur) (news := (vs.drop k).flatMap encNV) Tryz.underlying81 (by kernel_rfl) (hS.blk 0 rfl) (CellsAt_of (hS.blk 0 rfl) (fun j v hj => by rw [Nat.zero_add]; exact hcB j v hj)) (by rw [hB]; congr 1; rw [show vs.length + 1 - (k + 1) = vs.length - k by omega]; exact (Nat.min_eq_right (by omega)).symm) (flat_one codNote _) (by rw [hB, hl]; omega) ?_
    replace hK := hK.trans (Ext.set (S := fun b => b = g) (b := g) rfl 107 (over cur (0 + (k + 1) * 5) ((vs.drop k).flatMap encNV)))
    refine KeepC.mk hK ?_
    replace hS := hS.setB 0 rfl (over cur (0 + (k + 1) * 5) ((vs.drop k).flatMap encNV))
    have hl2 : (over cur (0 + (k + 1) * 5) ((vs.drop k).flatMap encNV)).length = c * 5 := by rw [over_len (by rw [hB, hl]; omega), hl]
    (conv => whnf)
    refine sTail (j := k) (sz := 5) Tryz.underlying81 (by kernel_rfl) (by kernel_rfl) rfl (by omega) ?_
    rw [if_neg (by omega)]
    (conv => whnf)
    refine copyRow (sz := 5) (cur := over cur (0 + (k + 1) * 5) ((vs.drop k).flatMap encNV)) (news := encNV x) Tryz.underlying81 (by kernel_rfl) (hS.blk 0 rfl) (CellsAt_of (hS.blk 1 rfl) (fun j v hj => by rw [Nat.zero_add]; exact hj)) (by rw [show Nat.min 1 (vs.length + 1 - k) = 1 from Nat.min_eq_left (by omega)]; rfl) rfl (by rw [hX, hl2]; omega) ?_
    replace hS := hS.setB 0 rfl (over (over cur (0 + (k + 1) * 5) ((vs.drop k).flatMap encNV)) (0 + k * 5) (encNV x))
    repeat' ((conv => whnf); first | refine RetC.mk ?_ | refine NzC.mk (by decide) ?_ | refine RngC.mk (by omega) (by omega) ?_ | refine IdxC.mk (by omega) (by omega) ?_ | refine brD (fun _ => ?_) (fun _ => ?_) | refine brND (fun _ => ?_) (fun _ => ?_) | refine brN (fun _ => ?_) (fun _ => ?_) | refine brI (fun _ => ?_) (fun _ => ?_))
    have hrow := blk_own (sz := 5) (n := vs.length + 1) (cap := c) (xs := (vs.take k ++ x :: vs.drop k).flatMap encNV) (hS.blk 0 rfl) (by omega) hcm (by rw [over_len (by rw [hX, hl2]; omega), hl2]) (by
      rw [Nat.zero_add, Nat.zero_add, hfin, hk1, ins_list (by rw [hX, hB, hl]; omega), hA, hflat])
    have hS2 := hS.upd 0 rfl (e' := ownL 107 5 encNV (.slice (some ⟨g, 0, none⟩) (vs.length + 1) c) (vs.take k ++ x :: vs.drop k)) (T := No) (Ext.refl _ _) (fun _ h => h.elim) ownL_local (by unfold ownL; rw [hlen]; exact hrow) (fun d hd => .inl (by rw [hgf] at hd; exact hd))
    exact ⟨_, _, rfl, St.turns hS2⟩
end
end Go.Proofs.YtoaghhcjlfiflaaGreatDoor

namespace Go.Proofs.YtoaghhcjlfiflaaGreatDoor
open Go Ev
theorem Ev.inF_perm {H H' : List Ent} (hp : H.Perm H') {b : Nat} (h : inF H b) : inF H' b := by
  obtain ⟨e, he, hb⟩ := h
  exact ⟨e, hp.mem_iff.1 he, hb⟩
theorem Ev.St.perm {w0 w : World} {S : Nat → Prop} {H H' : List Ent} (h : St w0 S w H) (hp : H.Perm H') : St w0 S w H' :=
  ⟨h.ext, fun e he => h.each e (hp.mem_iff.2 he), fun e he => h.loc e (hp.mem_iff.2 he), fun e he => h.may e (hp.mem_iff.2 he), (hp.pairwise_iff (fun {a b} h => apart_symm' a b h)).1 h.apart⟩
theorem Ev.Has.perm {w : World} {H H' : List Ent} (h : Has w H) (hp : H.Perm H') : Has w H' :=
  ⟨fun e he => h.each e (hp.mem_iff.2 he), fun e he => h.loc e (hp.mem_iff.2 he), fun e he => h.lt e (hp.mem_iff.2 he), (hp.pairwise_iff (fun {a b} h => apart_symm' a b h)).1 h.apart⟩
theorem Ev.Turns.perm {w w' : World} {H H' G G' : List Ent} (k : Turns w w' H G) (hp : H.Perm H') (hq : G.Perm G') : Turns w w' H' G' :=
  ⟨k.ext.mono fun _ hb => inF_perm hp hb, k.has.perm hq, fun e he b hb => (k.foot e (hq.mem_iff.2 he) b hb).imp (inF_perm hp) id⟩
theorem High.turns {w w' : World} {H H' : List Ent} {q : Nat} (h : High H q) (hq : q ≤ w.heap.size) (k : Turns w w' H H') : High H' q := fun b ⟨e, he, hb⟩ => (k.foot e he b hb).elim (h b) (fun g => Nat.le_trans hq g)
theorem High.perm {H H' : List Ent} {q : Nat} (h : High H q) (hp : H.Perm H') : High H' q := fun b hb => h b (inF_perm hp.symm hb)
theorem High.app {A B : List Ent} {q : Nat} (h : High (A ++ B) q) : High A q ∧ High B q := ⟨fun b hb => h b (inF_app.2 (.inl hb)), fun b hb => h b (inF_app.2 (.inr hb))⟩
theorem Errs.turns {w w' : World} {E : Nat → Addr} {q : Nat} {ks : List Nat} {H H' : List Ent} (h : Errs w E q ks) (hH : High H q) (k : Turns w w' H H') : Errs w' E q ks := h.ext k.ext hH
theorem size_of_high {w : World} {H : List Ent} {q b : Nat} (hH : High H q) (hw : Has w H) (hb : inF H b) : q ≤ w.heap.size := by
  have h1 := hH b hb
  obtain ⟨e, he, hb⟩ := hb
  have h2 := hw.lt e he b hb
  omega

structure SideA where
  s : Nat
  A : NodeA
structure WorldA where
  w : Nat
  a : SideA
  b : SideA
  ra : Option Addr
  rc : Nat
  fa : Option Addr
  fc : Nat
  vs : List NoteV
  ea : Option Addr
  ec : Nat
def WorldA.side (X : WorldA) (n : Int) : SideA := if n = 0 then X.a else X.b
def WorldA.setSide (X : WorldA) (n : Int) (Y : SideA) : WorldA := if n = 0 then { X with a := Y } else { X with b := Y }
def nodeP (Y : SideA) (s : SideS) : Option Addr := match s.node with | some _ => some ⟨Y.A.n, 0, none⟩ | none => none
def encSide (Y : SideA) (s : SideS) : List Value := [.pointer (nodeP Y s), .pointer (some ⟨Y.A.b, 0, none⟩)]
def encWorld (X : WorldA) (W : WorldS) : List Value := [.pointer (some ⟨X.a.s, 0, none⟩), .pointer (some ⟨X.b.s, 0, none⟩), .slice X.ra W.rules.length X.rc, .slice X.fa W.fly.length X.fc, .int .i64 W.to, .int .i64 W.epoch, .slice X.ea W.events.length X.ec]
def encEv (e : Int × Int) : List Value := [.int .i64 e.1, .int .i64 e.2]
theorem codEv : Codec 2 encEv := ⟨fun _ => rfl, fun _ => rfl, by decide⟩
def sideH (Y : SideA) (s : SideS) : List Ent := match s.node with
  | some N => nodeB Y.A N s.byt
  | none => [blk Y.A.b 143 (encBy s.byt)]
def fixH (X : WorldA) (W : WorldS) (Y Z : SideA) (s t : SideS) : List Ent := [blk X.w 96 (encWorld X W), blk Y.s 101 (encSide Y s), blk Z.s 101 (encSide Z t), ownL 92 5 encRule (.slice X.ra W.rules.length X.rc) W.rules, ownL 107 5 encNV (.slice X.fa W.fly.length X.fc) X.vs, cellsE X.vs W.fly, ownL 64 2 encEv (.slice X.ea W.events.length X.ec) W.events]
def worldH (X : WorldA) (W : WorldS) : List Ent := fixH X W X.a X.b W.a W.b ++ (sideH X.a W.a ++ sideH X.b W.b)
def viewH (X : WorldA) (W : WorldS) (n : Int) : List Ent := fixH X W (X.side n) (X.side (1 - n)) (W.side n) (W.side (1 - n)) ++ (sideH (X.side n) (W.side n) ++ sideH (X.side (1 - n)) (W.side (1 - n)))
theorem view_perm (X : WorldA) (W : WorldS) {n : Int} (hn : n = 0 ∨ n = 1) : (worldH X W).Perm (viewH X W n) := by
  rcases hn with rfl | rfl
  · exact List.Perm.refl _
  · unfold worldH viewH
    refine List.Perm.append ?_ List.perm_append_comm
    exact List.Perm.cons _ (List.Perm.swap _ _ _)
section
variable {w w' : World} {X : WorldA} {W : WorldS}
structure Stands (E : Nat → Addr) (q m : Nat) (w : World) (X : WorldA) (W : WorldS) : Prop where
  has : Has w (worldH X W)
  ok : WOk m W
  errs : Errs w E q insErrs
  high : High (worldH X W) q
variable {E : Nat → Addr} {q m : Nat}
theorem Stands.size (h : Stands E q m w X W) : q ≤ w.heap.size := size_of_high h.high h.has (b := X.w) ⟨_, List.mem_of_getElem? (i := 0) rfl, List.mem_singleton.2 rfl⟩
theorem Stands.turns {m' : Nat} {X' : WorldA} {W' : WorldS} (h : Stands E q m w X W) (k : Turns w w' (worldH X W) (worldH X' W')) (ok : WOk m' W') : Stands E q m' w' X' W' :=
  ⟨k.has, ok, h.errs.turns h.high k, h.high.turns h.size k⟩
theorem Stands.no (h : Stands E q m w X W) (hx : Ext No w w') : Stands E q m w' X W := h.turns (Turns.of_no h.has hx) h.ok
theorem Stands.view (h : Stands E q m w X W) {n : Int} (hn : n = 0 ∨ n = 1) : Has w (viewH X W n) ∧ High (viewH X W n) q := ⟨h.has.perm (view_perm X W hn), h.high.perm (view_perm X W hn)⟩
theorem Turns.unview {n : Int} (hn : n = 0 ∨ n = 1) {X' : WorldA} {W' : WorldS} (k : Turns w w' (viewH X W n) (viewH X' W' n)) : Turns w w' (worldH X W) (worldH X' W') := k.perm (view_perm X W hn).symm (view_perm X' W' hn).symm
theorem Ev.Turns.frame {A B R : List Ent} (h : Has w (A ++ R)) (k : Turns w w' A B) : Turns w w' (A ++ R) (B ++ R) := (h.start.call k).turns
def halfH (X : WorldA) (W : WorldS) (n : Int) : List Ent := fixH X W (X.side n) (X.side (1 - n)) (W.side n) (W.side (1 - n)) ++ sideH (X.side n) (W.side n)
theorem view_half (X : WorldA) (W : WorldS) (n : Int) : viewH X W n = halfH X W n ++ sideH (X.side (1 - n)) (W.side (1 - n)) := by
  unfold viewH halfH
  rw [List.append_assoc]
theorem Stands.half (h : Stands E q m w X W) {n : Int} (hn : n = 0 ∨ n = 1) : Has w (halfH X W n) ∧ High (halfH X W n) q := by
  obtain ⟨h1, h2⟩ := h.view hn
  rw [view_half] at h1 h2
  exact ⟨h1.left, h2.app.1⟩
theorem Turns.world (h : Has w (worldH X W)) {n : Int} (hn : n = 0 ∨ n = 1) {X' : WorldA} {W' : WorldS} (k : Turns w w' (halfH X W n) (halfH X' W' n)) (hx : X'.side (1 - n) = X.side (1 - n)) (hw : W'.side (1 - n) = W.side (1 - n)) : Turns w w' (worldH X W) (worldH X' W') := by
  have h1 := h.perm (view_perm X W hn)
  rw [view_half] at h1
  refine Turns.unview hn ?_
  rw [view_half, view_half, hx, hw]
  exact Turns.frame h1 k
theorem side_set {n : Int} (hn : n = 0 ∨ n = 1) (Y : SideA) (s : SideS) : (X.setSide n Y).side n = Y ∧ (X.setSide n Y).side (1 - n) = X.side (1 - n) ∧ (W.setSide n s).side n = s ∧ (W.setSide n s).side (1 - n) = W.side (1 - n) := by
  rcases hn with rfl | rfl <;> exact ⟨rfl, rfl, rfl, rfl⟩
theorem half_set {n : Int} (hn : n = 0 ∨ n = 1) {Y : SideA} (hY : Y.s = (X.side n).s) (s : SideS) : halfH (X.setSide n Y) (W.setSide n s) n = fixH X W Y (X.side (1 - n)) s (W.side (1 - n)) ++ sideH Y s := by
  rcases hn with rfl | rfl
  · show _ ++ _ = _ ++ _
    congr 1
    show [blk X.w 96 [.pointer (some ⟨Y.s, 0, none⟩), _, _, _, _, _, _], _, _, _, _, _, _] = _
    rw [hY]
    rfl
  · show _ ++ _ = _ ++ _
    congr 1
    show [blk X.w 96 [_, .pointer (some ⟨Y.s, 0, none⟩), _, _, _, _, _], _, _, _, _, _, _] = _
    rw [hY]
    rfl
theorem Turns.side (h : Has w (worldH X W)) {n : Int} (hn : n = 0 ∨ n = 1) {Y : SideA} (hY : Y.s = (X.side n).s) {s : SideS} (k : Turns w w' (halfH X W n) (fixH X W Y (X.side (1 - n)) s (W.side (1 - n)) ++ sideH Y s)) : Turns w w' (worldH X W) (worldH (X.setSide n Y) (W.setSide n s)) := by
  rw [← half_set hn hY s] at k
  exact Turns.world h hn k (side_set (W := W) hn Y s).2.1 (side_set (X := X) hn Y s).2.2.2
theorem Stands.of_half (h : Stands E q m w X W) {n : Int} (hn : n = 0 ∨ n = 1) (k : Turns w w' (halfH X W n) (halfH X W n)) : Stands E q m w' X W := h.turns (Turns.world h.has hn k rfl rfl) h.ok
theorem Ev.St.notin {w0 w : World} {S : Nat → Prop} {L : List Ent} (h : St w0 S w L) (i p n : Nat) {e : Ent} {b : Nat} (hi : L[i]? = some e) (hb : b ∈ e.foot) (hp : i < p ∨ p + n ≤ i) : ¬ inF ((L.drop p).take n) b := by
  rintro ⟨f, hf, hbf⟩
  obtain ⟨j, hj⟩ := List.getElem?_of_mem hf
  rw [List.getElem?_take] at hj
  split at hj
  · rw [List.getElem?_drop] at hj
    exact h.apartAt i (p + j) hi hj (by omega) b hb hbf
  · cases hj
end
end Go.Proofs.YtoaghhcjlfiflaaGreatDoor

namespace Go.Proofs.YtoaghhcjlfiflaaGreatDoor
open Go Ev
section
variable {w w' : World} {X : WorldA} {W : WorldS} {E : Nat → Addr} {q m : Nat}
theorem encSide_some {Y : SideA} {s : SideS} {N : NodeS} (h : s.node = some N) : encSide Y s = [.pointer (some ⟨Y.A.n, 0, none⟩), .pointer (some ⟨Y.A.b, 0, none⟩)] := by
  unfold encSide nodeP
  rw [h]
theorem encSide_none {Y : SideA} {s : SideS} (h : s.node = none) : encSide Y s = [.pointer none, .pointer (some ⟨Y.A.b, 0, none⟩)] := by
  unfold encSide nodeP
  rw [h]
theorem sideH_some {Y : SideA} {s : SideS} {N : NodeS} (h : s.node = some N) : sideH Y s = nodeB Y.A N s.byt := by
  unfold sideH
  rw [h]
theorem sideH_none {Y : SideA} {s : SideS} (h : s.node = none) : sideH Y s = [blk Y.A.b 143 (encBy s.byt)] := by
  unfold sideH
  rw [h]
theorem upErr_some {n : Int} {N : NodeS} (hn : n = 0 ∨ n = 1) (h : (W.side n).node = some N) : W.upErr n = 0 := by
  unfold WorldS.upErr
  rw [if_neg (by omega), h]
theorem upErr_none {n : Int} (hn : n = 0 ∨ n = 1) (h : (W.side n).node = none) : W.upErr n = 7 := by
  unfold WorldS.upErr
  rw [if_neg (by omega), h]
theorem wup_ok (n : Int) (h : Stands E q m w X W) : CallC Tryz.prog 54 #[.pointer (some ⟨X.w, 0, none⟩), .int .i64 n] w fun v w' => v = .tuple #[.pointer (if W.upErr n = 0 then some ⟨(X.side n).s, 0, none⟩ else none), errV E (W.upErr n)] ∧ Ext No w w' := by
  by_cases hn : n = 0 ∨ n = 1
  · obtain ⟨hV, hQ⟩ := h.view hn
    have hqF : ∀ b, inF (viewH X W n) b → q ≤ b := hQ
    cases hN : (W.side n).node with
    | none =>
      rw [upErr_none hn hN, if_neg (by decide)]
      rcases hn with rfl | rfl
      all_goals
        refine fn_intro tabOk Tryz.func54 (by kernel_rfl) rfl Tryz.ntmps54 (Nat.le_of_ble_eq_true rfl) ?_
        have hS := hV.start
        (conv => whnf)
        refine IdxC.mk (by decide) (by decide) ?_
        (conv => whnf)
        refine hS.ld 0 rfl rfl ?_
        (conv => whnf)
        refine hS.ld 1 rfl (v := .pointer none) (by rw [encSide_none hN]; rfl) ?_
        (conv => whnf)
        (refine drawS tabOk mixed [] No [0, 1, 2] (by kernel_rfl) ?_; rintro w1 rfl; replace hS := hS.drew)
        repeat' ((conv => whnf); first | refine RetC.mk ?_ | refine NzC.mk (by decide) ?_ | refine RngC.mk (by omega) (by omega) ?_ | refine IdxC.mk (by omega) (by omega) ?_ | refine hS.ldrF (h.errs.at_ 7 rfl) (Errs.out h.errs 7 rfl hqF) id ?_ | refine brD (fun _ => ?_) (fun _ => ?_) | refine brND (fun _ => ?_) (fun _ => ?_) | refine brN (fun _ => ?_) (fun _ => ?_) | refine brI (fun _ => ?_) (fun _ => ?_))
        exact ⟨rfl, Ext.drawn _ _ _⟩
    | some N =>
      rw [upErr_some hn hN, if_pos rfl]
      rcases hn with rfl | rfl
      all_goals
        refine fn_intro tabOk Tryz.func54 (by kernel_rfl) rfl Tryz.ntmps54 (Nat.le_of_ble_eq_true rfl) ?_
        have hS := hV.start
        (conv => whnf)
        refine IdxC.mk (by decide) (by decide) ?_
        (conv => whnf)
        refine hS.ld 0 rfl rfl ?_
        (conv => whnf)
        refine hS.ld 1 rfl (v := .pointer (some ⟨(X.side _).A.n, 0, none⟩)) (by rw [encSide_some hN]; rfl) ?_
        (conv => whnf)
        refine IdxC.mk (by decide) (by decide) ?_
        (conv => whnf)
        refine hS.ld 0 rfl rfl ?_
        repeat' ((conv => whnf); first | refine RetC.mk ?_ | refine NzC.mk (by decide) ?_ | refine RngC.mk (by omega) (by omega) ?_ | refine IdxC.mk (by omega) (by omega) ?_ | refine brD (fun _ => ?_) (fun _ => ?_) | refine brND (fun _ => ?_) (fun _ => ?_) | refine brN (fun _ => ?_) (fun _ => ?_) | refine brI (fun _ => ?_) (fun _ => ?_))
        exact ⟨rfl, Ext.refl _ _⟩
  · have hu : W.upErr n = 2 := if_pos (by omega)
    rw [hu, if_neg (by decide)]
    have hqF : ∀ b, inF (worldH X W) b → q ≤ b := h.high
    refine fn_intro tabOk Tryz.func54 (by kernel_rfl) rfl Tryz.ntmps54 (Nat.le_of_ble_eq_true rfl) ?_
    have hS := h.has.start
    (conv => whnf)
    refine brND (fun h1 => ?_) (fun h1 => absurd (.inl h1) hn)
    (conv => whnf)
    refine brND (fun h1 => ?_) (fun h1 => absurd (.inr h1) hn)
    (conv => whnf)
    (refine drawS tabOk mixed [] No [0, 1, 2] (by kernel_rfl) ?_; rintro w1 rfl; replace hS := hS.drew)
    repeat' ((conv => whnf); first | refine RetC.mk ?_ | refine NzC.mk (by decide) ?_ | refine RngC.mk (by omega) (by omega) ?_ | refine IdxC.mk (by omega) (by omega) ?_ | refine hS.ldrF (h.errs.at_ 2 rfl) (Errs.out h.errs 2 rfl hqF) id ?_ | refine brD (fun _ => ?_) (fun _ => ?_) | refine brND (fun _ => ?_) (fun _ => ?_) | refine brN (fun _ => ?_) (fun _ => ?_) | refine brI (fun _ => ?_) (fun _ => ?_))
    exact ⟨rfl, Ext.drawn _ _ _⟩
theorem wswitch_ok (h : Has w (worldH X W)) : CallC Tryz.prog 21 #[.pointer (some ⟨X.w, 0, none⟩)] w fun v w' => v = .tuple #[.int .i64 W.to, .int .i64 W.epoch] ∧ Ext No w w' := by
  refine fn_intro tabOk Tryz.func21 (by kernel_rfl) rfl Tryz.ntmps21 (Nat.le_of_ble_eq_true rfl) ?_
  have hS := h.start
  (conv => whnf)
  (refine drawS tabOk mixed [] No [0, 1, 2, 3, 4, 5, 6, 7, 8, 9] (by kernel_rfl) ?_; rintro w1 rfl; replace hS := hS.drew)
  repeat' ((conv => whnf); first | refine RetC.mk ?_ | refine NzC.mk (by decide) ?_ | refine RngC.mk (by omega) (by omega) ?_ | refine IdxC.mk (by omega) (by omega) ?_ | refine hS.ldF 0 rfl rfl id ?_ | refine brD (fun _ => ?_) (fun _ => ?_) | refine brND (fun _ => ?_) (fun _ => ?_) | refine brN (fun _ => ?_) (fun _ => ?_) | refine brI (fun _ => ?_) (fun _ => ?_))
  exact ⟨rfl, Ext.drawn _ _ _⟩
theorem wnode_ok (n : Int) (h : Stands E q m w X W) : CallC Tryz.prog 19 #[.pointer (some ⟨X.w, 0, none⟩), .int .i64 n] w fun v w' => v = .tuple #[.pointer (if W.upErr n = 0 then some ⟨(X.side n).A.n, 0, none⟩ else none), errV E (W.upErr n)] ∧ Ext No w w' := by
  refine fn_intro tabOk Tryz.func19 (by kernel_rfl) rfl Tryz.ntmps19 (Nat.le_of_ble_eq_true rfl) ?_
  (conv => whnf)
  refine (wup_ok n h).mono ?_
  rintro v w1 ⟨rfl, hx⟩
  by_cases hu : W.upErr n = 0
  · obtain ⟨hn, N, hN⟩ := upErr_in hu
    rw [hu, if_pos rfl, if_pos rfl]
    have hS := ((h.view hn).1.read hx).start
    (conv => whnf)
    refine hS.ld 1 rfl (v := .pointer (some ⟨(X.side n).A.n, 0, none⟩)) (by rw [encSide_some hN]; rfl) ?_
    repeat' ((conv => whnf); first | refine RetC.mk ?_ | refine NzC.mk (by decide) ?_ | refine RngC.mk (by omega) (by omega) ?_ | refine IdxC.mk (by omega) (by omega) ?_ | refine brD (fun _ => ?_) (fun _ => ?_) | refine brND (fun _ => ?_) (fun _ => ?_) | refine brN (fun _ => ?_) (fun _ => ?_) | refine brI (fun _ => ?_) (fun _ => ?_))
    exact ⟨rfl, hx⟩
  · rw [if_neg hu, if_neg hu]
    obtain ⟨j, hj⟩ : ∃ j, W.upErr n = j + 1 := ⟨W.upErr n - 1, by omega⟩
    rw [hj]
    repeat' ((conv => whnf); first | refine RetC.mk ?_ | refine NzC.mk (by decide) ?_ | refine RngC.mk (by omega) (by omega) ?_ | refine IdxC.mk (by omega) (by omega) ?_ | refine brD (fun _ => ?_) (fun _ => ?_) | refine brND (fun _ => ?_) (fun _ => ?_) | refine brN (fun _ => ?_) (fun _ => ?_) | refine brI (fun _ => ?_) (fun _ => ?_))
    exact ⟨rfl, hx⟩
theorem whand_ok (h : Stands E q m w X W) : CallC Tryz.prog 94 #[.pointer (some ⟨X.w, 0, none⟩)] w fun v w' => v = .tuple #[.pointer (if W.handErr = 0 then some ⟨(X.side W.to).s, 0, none⟩ else none), errV E W.handErr] ∧ Ext No w w' := by
  have hqF : ∀ b, inF (worldH X W) b → q ≤ b := h.high
  refine fn_intro tabOk Tryz.func94 (by kernel_rfl) rfl Tryz.ntmps94 (Nat.le_of_ble_eq_true rfl) ?_
  have hS := h.has.start
  (conv => whnf)
  refine hS.ld 0 rfl rfl ?_
  (conv => whnf)
  refine brD (fun h1 => ?_) (fun h1 => ?_)
  · have hu : W.handErr = 4 := if_pos h1
    rw [hu, if_neg (by decide)]
    (conv => whnf)
    (refine drawS tabOk mixed [] No [0, 1, 2] (by kernel_rfl) ?_; rintro w1 rfl; replace hS := hS.drew)
    repeat' ((conv => whnf); first | refine RetC.mk ?_ | refine NzC.mk (by decide) ?_ | refine RngC.mk (by omega) (by omega) ?_ | refine IdxC.mk (by omega) (by omega) ?_ | refine hS.ldrF (h.errs.at_ 4 rfl) (Errs.out h.errs 4 rfl hqF) id ?_ | refine brD (fun _ => ?_) (fun _ => ?_) | refine brND (fun _ => ?_) (fun _ => ?_) | refine brN (fun _ => ?_) (fun _ => ?_) | refine brI (fun _ => ?_) (fun _ => ?_))
    exact ⟨rfl, Ext.drawn _ _ _⟩
  · have hu : W.handErr = W.upErr W.to := if_neg h1
    rw [hu]
    (conv => whnf)
    refine hS.ld 0 rfl rfl ?_
    (conv => whnf)
    refine (wup_ok W.to h).mono ?_
    rintro v w1 ⟨rfl, hx⟩
    repeat' ((conv => whnf); first | refine RetC.mk ?_ | refine NzC.mk (by decide) ?_ | refine RngC.mk (by omega) (by omega) ?_ | refine IdxC.mk (by omega) (by omega) ?_ | refine brD (fun _ => ?_) (fun _ => ?_) | refine brND (fun _ => ?_) (fun _ => ?_) | refine brN (fun _ => ?_) (fun _ => ?_) | refine brI (fun _ => ?_) (fun _ => ?_))
    exact ⟨rfl, hx⟩
theorem wat_ok (k : Int) (h : Stands E q m w X W) : CallC Tryz.prog 52 #[.pointer (some ⟨X.w, 0, none⟩), .int .i64 k] w fun v w' => v = errV E (W.at_ k) ∧ Ext No w w' := by
  have hqF : ∀ b, inF (worldH X W) b → q ≤ b := h.high
  refine fn_intro tabOk Tryz.func52 (by kernel_rfl) rfl Tryz.ntmps52 (Nat.le_of_ble_eq_true rfl) ?_
  have hS := h.has.start
  (conv => whnf)
  refine brD (fun h1 => ?_) (fun h1 => ?_)
  · have hu : W.at_ k = 4 := if_pos (.inl h1)
    rw [hu]
    repeat' ((conv => whnf); first | refine RetC.mk ?_ | refine NzC.mk (by decide) ?_ | refine RngC.mk (by omega) (by omega) ?_ | refine IdxC.mk (by omega) (by omega) ?_ | refine hS.ldr (h.errs.at_ 4 rfl) (Errs.out h.errs 4 rfl hqF) ?_ | refine brD (fun _ => ?_) (fun _ => ?_) | refine brND (fun _ => ?_) (fun _ => ?_) | refine brN (fun _ => ?_) (fun _ => ?_) | refine brI (fun _ => ?_) (fun _ => ?_))
    exact ⟨rfl, Ext.refl _ _⟩
  (conv => whnf)
  refine hS.ld 0 rfl rfl ?_
  (conv => whnf)
  refine brD (fun h2 => ?_) (fun h2 => ?_)
  · have hu : W.at_ k = 4 := if_pos (.inr h2)
    rw [hu]
    repeat' ((conv => whnf); first | refine RetC.mk ?_ | refine NzC.mk (by decide) ?_ | refine RngC.mk (by omega) (by omega) ?_ | refine IdxC.mk (by omega) (by omega) ?_ | refine hS.ldr (h.errs.at_ 4 rfl) (Errs.out h.errs 4 rfl hqF) ?_ | refine brD (fun _ => ?_) (fun _ => ?_) | refine brND (fun _ => ?_) (fun _ => ?_) | refine brN (fun _ => ?_) (fun _ => ?_) | refine brI (fun _ => ?_) (fun _ => ?_))
    exact ⟨rfl, Ext.refl _ _⟩
  · have hu : W.at_ k = 0 := if_neg (by omega)
    rw [hu]
    repeat' ((conv => whnf); first | refine RetC.mk ?_ | refine NzC.mk (by decide) ?_ | refine RngC.mk (by omega) (by omega) ?_ | refine IdxC.mk (by omega) (by omega) ?_ | refine brD (fun _ => ?_) (fun _ => ?_) | refine brND (fun _ => ?_) (fun _ => ?_) | refine brN (fun _ => ?_) (fun _ => ?_) | refine brI (fun _ => ?_) (fun _ => ?_))
    exact ⟨rfl, Ext.refl _ _⟩
end
end Go.Proofs.YtoaghhcjlfiflaaGreatDoor

namespace Go.Proofs.YtoaghhcjlfiflaaGreatDoor
open Go Ev
section
variable {w w' : World} {X : WorldA} {W : WorldS} {E : Nat → Addr} {q m : Nat}
theorem half_some {n : Int} {N : NodeS} (h : (W.side n).node = some N) : halfH X W n = fixH X W (X.side n) (X.side (1 - n)) (W.side n) (W.side (1 - n)) ++ nodeB (X.side n).A N (W.side n).byt := by
  unfold halfH
  rw [sideH_some h]
theorem fix_some {n : Int} {N : NodeS} {Y Z : SideA} {t : SideS} (h : (W.side n).node = some N) : fixH X W Y Z (W.side n) t = fixH X W Y Z ⟨some N, (W.side n).byt⟩ t := by
  unfold fixH
  rw [encSide_some h, encSide_some (s := ⟨some N, (W.side n).byt⟩) rfl]
theorem fix_none {n : Int} {Y Z : SideA} {t : SideS} (h : (W.side n).node = none) : fixH X W Y Z (W.side n) t = fixH X W Y Z ⟨none, (W.side n).byt⟩ t := by
  unfold fixH
  rw [encSide_none h, encSide_none (s := ⟨none, (W.side n).byt⟩) rfl]
theorem half_up {n : Int} {N : NodeS} (h : (W.side n).node = some N) : halfH X W n = fixH X W (X.side n) (X.side (1 - n)) ⟨some N, (W.side n).byt⟩ (W.side (1 - n)) ++ nodeB (X.side n).A N (W.side n).byt := by
  rw [half_some h, fix_some h]
theorem half_down {n : Int} (h : (W.side n).node = none) : halfH X W n = fixH X W (X.side n) (X.side (1 - n)) ⟨none, (W.side n).byt⟩ (W.side (1 - n)) ++ [blk (X.side n).A.b 143 (encBy (W.side n).byt)] := by
  unfold halfH
  rw [sideH_none h, fix_none h]
theorem setSide_id {n : Int} (hn : n = 0 ∨ n = 1) : X.setSide n (X.side n) = X := by
  rcases hn with rfl | rfl <;> rfl
theorem wdown_ok (n : Int) (h : Stands E q m w X W) : CallC Tryz.prog 15 #[.pointer (some ⟨X.w, 0, none⟩), .int .i64 n] w fun v w' => v = errV E (W.down n).1 ∧ Turns w w' (worldH X W) (worldH X (W.down n).2) := by
  refine fn_intro tabOk Tryz.func15 (by kernel_rfl) rfl Tryz.ntmps15 (Nat.le_of_ble_eq_true rfl) ?_
  (conv => whnf)
  refine (wup_ok n h).mono ?_
  rintro v w1 ⟨rfl, hx⟩
  by_cases hu : W.upErr n = 0
  case neg =>
    obtain ⟨j, hj⟩ : ∃ j, W.upErr n = j + 1 := ⟨W.upErr n - 1, by omega⟩
    rw [show W.down n = (W.upErr n, W) from if_pos hu, hj]
    repeat' ((conv => whnf); first | refine RetC.mk ?_ | refine NzC.mk (by decide) ?_ | refine RngC.mk (by omega) (by omega) ?_ | refine IdxC.mk (by omega) (by omega) ?_ | refine brD (fun _ => ?_) (fun _ => ?_) | refine brND (fun _ => ?_) (fun _ => ?_) | refine brN (fun _ => ?_) (fun _ => ?_) | refine brI (fun _ => ?_) (fun _ => ?_))
    exact ⟨rfl, Turns.of_no h.has hx⟩
  obtain ⟨hn, N, hN⟩ := upErr_in hu
  rw [show W.down n = (0, W.setSide n ⟨none, { (W.side n).byt with off := true }⟩) from if_neg (fun h => h hu), hu, if_pos rfl]
  have hBk := (h.ok.side hn).bok
  have hH := (h.half hn).1
  have hT : ∀ {w'}, Turns w w' (halfH X W n) (fixH X W (X.side n) (X.side (1 - n)) ⟨none, { (W.side n).byt with off := true }⟩ (W.side (1 - n)) ++ [blk (X.side n).A.b 143 (encBy { (W.side n).byt with off := true })]) → Turns w w' (worldH X W) (worldH X (W.setSide n ⟨none, { (W.side n).byt with off := true }⟩)) := fun k => by
    have := Turns.side h.has hn (Y := X.side n) rfl (s := ⟨none, { (W.side n).byt with off := true }⟩) k
    rwa [setSide_id hn] at this
  have hS := hH.start.no hx
  rw [half_up hN] at hS hT
  generalize W.setSide n ⟨none, { (W.side n).byt with off := true }⟩ = W' at hT ⊢
  generalize (W.side n).byt = B at hS hT hBk ⊢
  clear hH hx
  (conv => whnf)
  refine hS.ld 1 rfl rfl ?_
  (conv => whnf)
  refine (boff_ok (hS.blk 14 rfl) hBk.len).mono ?_
  rintro v w' ⟨hx, hB⟩
  replace hS := hS.upd 14 rfl hx (fun c hc => by subst hc; exact List.mem_singleton.2 rfl) (blk_local _ _ _) hB (fun c hc => .inl hc)
  (conv => whnf)
  refine hS.st 1 rfl (Nat.le_of_ble_eq_true rfl) rfl (fun w' hS => ?_)
  repeat' ((conv => whnf); first | refine RetC.mk ?_ | refine NzC.mk (by decide) ?_ | refine RngC.mk (by omega) (by omega) ?_ | refine IdxC.mk (by omega) (by omega) ?_ | refine brD (fun _ => ?_) (fun _ => ?_) | refine brND (fun _ => ?_) (fun _ => ?_) | refine brN (fun _ => ?_) (fun _ => ?_) | refine brI (fun _ => ?_) (fun _ => ?_))
  exact ⟨rfl, hT (St.turns (hS.sel [0, 1, 2, 3, 4, 5, 6, 14] (by decide)))⟩
theorem wcut_ok (n k : Int) (h : Stands E q m w X W) : CallC Tryz.prog 47 #[.pointer (some ⟨X.w, 0, none⟩), .int .i64 n, .int .i64 k] w fun v w' => v = errV E (W.cut n k).1 ∧ Turns w w' (worldH X W) (worldH X (W.cut n k).2) := by
  refine fn_intro tabOk Tryz.func47 (by kernel_rfl) rfl Tryz.ntmps47 (Nat.le_of_ble_eq_true rfl) ?_
  (conv => whnf)
  refine (wup_ok n h).mono ?_
  rintro v w1 ⟨rfl, hx⟩
  by_cases hu : W.upErr n = 0
  case neg =>
    obtain ⟨j, hj⟩ : ∃ j, W.upErr n = j + 1 := ⟨W.upErr n - 1, by omega⟩
    rw [show W.cut n k = (W.upErr n, W) from if_pos hu, hj]
    repeat' ((conv => whnf); first | refine RetC.mk ?_ | refine NzC.mk (by decide) ?_ | refine RngC.mk (by omega) (by omega) ?_ | refine IdxC.mk (by omega) (by omega) ?_ | refine brD (fun _ => ?_) (fun _ => ?_) | refine brND (fun _ => ?_) (fun _ => ?_) | refine brN (fun _ => ?_) (fun _ => ?_) | refine brI (fun _ => ?_) (fun _ => ?_))
    exact ⟨rfl, Turns.of_no h.has hx⟩
  obtain ⟨hn, N, hN⟩ := upErr_in hu
  rw [show W.cut n k = (cutE (W.side n).byt k, W.setSide n ⟨(W.side n).node, cutB (W.side n).byt k⟩) from if_neg (fun h => h hu), hu, if_pos rfl, hN]
  have hBk := (h.ok.side hn).bok
  obtain ⟨hH, hQ⟩ := h.half hn
  have hT : ∀ {w'}, Turns w w' (halfH X W n) (fixH X W (X.side n) (X.side (1 - n)) ⟨some N, cutB (W.side n).byt k⟩ (W.side (1 - n)) ++ nodeB (X.side n).A N (cutB (W.side n).byt k)) → Turns w w' (worldH X W) (worldH X (W.setSide n ⟨some N, cutB (W.side n).byt k⟩)) := fun k => by
    have := Turns.side h.has hn (Y := X.side n) rfl k
    rwa [setSide_id hn] at this
  have hS := hH.start.no hx
  have hE := h.errs.ext hS.ext hQ
  rw [half_up hN] at hS hT hQ
  generalize W.setSide n ⟨some N, cutB (W.side n).byt k⟩ = W' at hT ⊢
  generalize (W.side n).byt = B at hS hT hBk hQ ⊢
  clear hH hx
  have hq : q ≤ (X.side n).A.b := hQ _ ⟨_, List.mem_of_getElem? (i := 14) rfl, List.mem_singleton.2 rfl⟩
  (conv => whnf)
  refine hS.ld 1 rfl rfl ?_
  (conv => whnf)
  refine (bcut_ok k (hS.blk 14 rfl) hBk.len (hE.sub rfl) hq).mono ?_
  rintro v w' ⟨rfl, hx, hB⟩
  replace hS := hS.upd 14 rfl hx (fun c hc => by subst hc; exact List.mem_singleton.2 rfl) (blk_local _ _ _) hB (fun c hc => .inl hc)
  repeat' ((conv => whnf); first | refine RetC.mk ?_ | refine NzC.mk (by decide) ?_ | refine RngC.mk (by omega) (by omega) ?_ | refine IdxC.mk (by omega) (by omega) ?_ | refine brD (fun _ => ?_) (fun _ => ?_) | refine brND (fun _ => ?_) (fun _ => ?_) | refine brN (fun _ => ?_) (fun _ => ?_) | refine brI (fun _ => ?_) (fun _ => ?_))
  exact ⟨rfl, hT (St.turns hS)⟩
theorem winside_ok (p : PktS) (h : Stands E q m w X W) (hm : m + 1 ≤ 50000000) : CallC Tryz.prog 48 #[.pointer (some ⟨X.w, 0, none⟩), .agg (encPkt p).toArray] w fun v w' => v = .tuple #[.agg (encPkt (W.inside p).2.1).toArray, errV E (W.inside p).1] ∧ Turns w w' (worldH X W) (worldH X (W.inside p).2.2) := by
  by_cases hu : W.handErr = 0
  case neg =>
    obtain ⟨j, hj⟩ : ∃ j, W.handErr = j + 1 := ⟨W.handErr - 1, by omega⟩
    rw [show W.inside p = (W.handErr, noPkt, W) from if_pos hu]
    refine fn_intro tabOk Tryz.func48 (by kernel_rfl) rfl Tryz.ntmps48 (Nat.le_of_ble_eq_true rfl) ?_
    have hS := St.start w No
    (conv => whnf)
    refine hS.new (fun bp w1 hbp hS => ?_)
    (conv => whnf)
    refine hS.new (fun br w2 hbr hS => ?_)
    replace hS : St w No w2 [blk bp 36 (encPkt p), blk br 36 (encPkt noPkt)] := hS
    (conv => whnf)
    refine (whand_ok (h.no hS.ext)).mono ?_
    rintro v w3 ⟨rfl, hx⟩
    replace hS := hS.no hx
    rw [hj]
    (conv => whnf)
    refine hS.st 1 rfl (Nat.le_of_ble_eq_true rfl) rfl (fun w' hS => ?_)
    (conv => whnf)
    refine hS.laX 1 rfl rfl ?_
    repeat' ((conv => whnf); first | refine RetC.mk ?_ | refine NzC.mk (by decide) ?_ | refine RngC.mk (by omega) (by omega) ?_ | refine IdxC.mk (by omega) (by omega) ?_ | refine brD (fun _ => ?_) (fun _ => ?_) | refine brND (fun _ => ?_) (fun _ => ?_) | refine brN (fun _ => ?_) (fun _ => ?_) | refine brI (fun _ => ?_) (fun _ => ?_))
    exact ⟨rfl, Turns.of_no h.has hS.ext⟩
  obtain ⟨hn, N, hN⟩ := h.ok.hand hu
  have hnk := ((h.ok.side hn).node N hN).1
  have hw : W.inside p = ((N.inside p).1, (N.inside p).2.1, W.setSide W.to ⟨some (N.inside p).2.2, (W.side W.to).byt⟩) := by
    unfold WorldS.inside
    rw [if_neg (fun h => h hu), hN]
  rw [hw]
  obtain ⟨hH, hQ⟩ := h.half hn
  have hT : ∀ {w'}, Turns w w' (halfH X W W.to) (fixH X W (X.side W.to) (X.side (1 - W.to)) ⟨some (N.inside p).2.2, (W.side W.to).byt⟩ (W.side (1 - W.to)) ++ nodeB (X.side W.to).A (N.inside p).2.2 (W.side W.to).byt) → Turns w w' (worldH X W) (worldH X (W.setSide W.to ⟨some (N.inside p).2.2, (W.side W.to).byt⟩)) := fun k => by
    have := Turns.side h.has hn (Y := X.side W.to) rfl k
    rwa [setSide_id hn] at this
  refine fn_intro tabOk Tryz.func48 (by kernel_rfl) rfl Tryz.ntmps48 (Nat.le_of_ble_eq_true rfl) ?_
  have hS := hH.start
  rw [half_up hN] at hS
  (conv => whnf)
  refine hS.new (fun bp w1 hbp hS => ?_)
  (conv => whnf)
  refine hS.new (fun br w2 hbr hS => ?_)
  have hst : Stands E q m w2 X W := h.of_half hn (by rw [half_up hN]; exact (hS.keep 15).turns)
  (conv => whnf)
  refine (whand_ok hst).mono ?_
  rintro v w3 ⟨rfl, hx⟩
  replace hS := hS.no hx
  rw [hu, if_pos rfl]
  rw [half_up hN] at hT hQ
  have hE := h.errs.ext hS.ext hQ
  have hQ' : High (nodeH (X.side W.to).A N) q := hQ.app.2.app.1
  have hs := hS.notin 1 7 7 rfl (List.mem_singleton.2 rfl) (.inl (by decide))
  have hp := hS.notin 15 7 7 rfl (List.mem_singleton.2 rfl) (.inr (by decide))
  have hs2 := hS.ne 1 16 rfl rfl (by decide)
  have hp2 := hS.ne 15 16 rfl rfl (by decide)
  generalize W.setSide W.to ⟨some (N.inside p).2.2, (W.side W.to).byt⟩ = W' at hT ⊢
  clear hst hx
  (conv => whnf)
  (refine drawS tabOk mixed [] (fun b => inF (nodeH (X.side W.to).A N) b ∨ b = br) [0, 1, 2, 3, 4, 5, 6, 7, 8, 9] (by kernel_rfl) ?_; rintro w1 rfl; replace hS := hS.drew)
  have hK := hS.ref (fun b => inF (nodeH (X.side W.to).A N) b ∨ b = br)
  (conv => whnf)
  refine hS.ldF 1 rfl (v := .pointer (some ⟨(X.side W.to).A.n, 0, none⟩)) rfl (fun h => h.elim hs hs2) ?_
  (conv => whnf)
  refine hS.laXF 15 rfl rfl (fun h => h.elim hp hp2) ?_
  (conv => whnf)
  have hw3 : Has _ (nodeH (X.side W.to).A N) := Has.left (B := [_, _, _]) (Has.right (A := [_, _, _, _, _, _, _]) hS.has)
  refine (ninside_ok p hw3 hnk hm (hE.ext (Ext.drawn No _ _) fun _ h => h.elim) hQ').mono ?_
  rintro v w' ⟨rfl, hk⟩
  replace hS := St.callAt (A := fixH X W (X.side W.to) (X.side (1 - W.to)) ⟨some N, (W.side W.to).byt⟩ (W.side (1 - W.to))) (B := [_, _, _]) hS hk
  replace hK := hK.trans (hk.ext.mono fun b hb => .inl hb)
  refine KeepC.mk hK ?_
  (conv => whnf)
  refine hS.stK hK 16 rfl (Nat.le_of_ble_eq_true rfl) rfl (.inr rfl) (fun w' hK hS => KeepC.mk hK ?_)
  (conv => whnf)
  refine hS.laX 16 rfl rfl ?_
  repeat' ((conv => whnf); first | refine RetC.mk ?_ | refine NzC.mk (by decide) ?_ | refine RngC.mk (by omega) (by omega) ?_ | refine IdxC.mk (by omega) (by omega) ?_ | refine brD (fun _ => ?_) (fun _ => ?_) | refine brND (fun _ => ?_) (fun _ => ?_) | refine brN (fun _ => ?_) (fun _ => ?_) | refine brI (fun _ => ?_) (fun _ => ?_))
  exact ⟨rfl, hT (hS.keep 15).turns⟩
theorem woutside_ok (p : PktS) (h : Stands E q m w X W) (hm : m + 1 ≤ 50000000) : CallC Tryz.prog 49 #[.pointer (some ⟨X.w, 0, none⟩), .agg (encPkt p).toArray] w fun v w' => v = .tuple #[.agg (encPkt (W.outside p).2.1).toArray, errV E (W.outside p).1] ∧ Turns w w' (worldH X W) (worldH X (W.outside p).2.2) := by
  by_cases hu : W.handErr = 0
  case neg =>
    obtain ⟨j, hj⟩ : ∃ j, W.handErr = j + 1 := ⟨W.handErr - 1, by omega⟩
    rw [show W.outside p = (W.handErr, noPkt, W) from if_pos hu]
    refine fn_intro tabOk Tryz.func49 (by kernel_rfl) rfl Tryz.ntmps49 (Nat.le_of_ble_eq_true rfl) ?_
    have hS := St.start w No
    (conv => whnf)
    refine hS.new (fun bp w1 hbp hS => ?_)
    (conv => whnf)
    refine hS.new (fun br w2 hbr hS => ?_)
    replace hS : St w No w2 [blk bp 36 (encPkt p), blk br 36 (encPkt noPkt)] := hS
    (conv => whnf)
    refine (whand_ok (h.no hS.ext)).mono ?_
    rintro v w3 ⟨rfl, hx⟩
    replace hS := hS.no hx
    rw [hj]
    (conv => whnf)
    refine hS.st 1 rfl (Nat.le_of_ble_eq_true rfl) rfl (fun w' hS => ?_)
    (conv => whnf)
    refine hS.laX 1 rfl rfl ?_
    repeat' ((conv => whnf); first | refine RetC.mk ?_ | refine NzC.mk (by decide) ?_ | refine RngC.mk (by omega) (by omega) ?_ | refine IdxC.mk (by omega) (by omega) ?_ | refine brD (fun _ => ?_) (fun _ => ?_) | refine brND (fun _ => ?_) (fun _ => ?_) | refine brN (fun _ => ?_) (fun _ => ?_) | refine brI (fun _ => ?_) (fun _ => ?_))
    exact ⟨rfl, Turns.of_no h.has hS.ext⟩
  obtain ⟨hn, N, hN⟩ := h.ok.hand hu
  have hnk := ((h.ok.side hn).node N hN).1
  have hw : W.outside p = ((N.outside p).1, (N.outside p).2.1, W.setSide W.to ⟨some (N.outside p).2.2, (W.side W.to).byt⟩) := by
    unfold WorldS.outside
    rw [if_neg (fun h => h hu), hN]
  rw [hw]
  obtain ⟨hH, hQ⟩ := h.half hn
  have hT : ∀ {w'}, Turns w w' (halfH X W W.to) (fixH X W (X.side W.to) (X.side (1 - W.to)) ⟨some (N.outside p).2.2, (W.side W.to).byt⟩ (W.side (1 - W.to)) ++ nodeB (X.side W.to).A (N.outside p).2.2 (W.side W.to).byt) → Turns w w' (worldH X W) (worldH X (W.setSide W.to ⟨some (N.outside p).2.2, (W.side W.to).byt⟩)) := fun k => by
    have := Turns.side h.has hn (Y := X.side W.to) rfl k
    rwa [setSide_id hn] at this
  refine fn_intro tabOk Tryz.func49 (by kernel_rfl) rfl Tryz.ntmps49 (Nat.le_of_ble_eq_true rfl) ?_
  have hS := hH.start
  rw [half_up hN] at hS
  (conv => whnf)
  refine hS.new (fun bp w1 hbp hS => ?_)
  (conv => whnf)
  refine hS.new (fun br w2 hbr hS => ?_)
  have hst : Stands E q m w2 X W := h.of_half hn (by rw [half_up hN]; exact (hS.keep 15).turns)
  (conv => whnf)
  refine (whand_ok hst).mono ?_
  rintro v w3 ⟨rfl, hx⟩
  replace hS := hS.no hx
  rw [hu, if_pos rfl]
  rw [half_up hN] at hT hQ
  have hE := h.errs.ext hS.ext hQ
  have hQ' : High (nodeH (X.side W.to).A N) q := hQ.app.2.app.1
  have hs := hS.notin 1 7 7 rfl (List.mem_singleton.2 rfl) (.inl (by decide))
  have hp := hS.notin 15 7 7 rfl (List.mem_singleton.2 rfl) (.inr (by decide))
  have hs2 := hS.ne 1 16 rfl rfl (by decide)
  have hp2 := hS.ne 15 16 rfl rfl (by decide)
  generalize W.setSide W.to ⟨some (N.outside p).2.2, (W.side W.to).byt⟩ = W' at hT ⊢
  clear hst hx
  (conv => whnf)
  (refine drawS tabOk mixed [] (fun b => inF (nodeH (X.side W.to).A N) b ∨ b = br) [0, 1, 2, 3, 4, 5, 6, 7, 8, 9] (by kernel_rfl) ?_; rintro w1 rfl; replace hS := hS.drew)
  have hK := hS.ref (fun b => inF (nodeH (X.side W.to).A N) b ∨ b = br)
  (conv => whnf)
  refine hS.ldF 1 rfl (v := .pointer (some ⟨(X.side W.to).A.n, 0, none⟩)) rfl (fun h => h.elim hs hs2) ?_
  (conv => whnf)
  refine hS.laXF 15 rfl rfl (fun h => h.elim hp hp2) ?_
  (conv => whnf)
  have hw3 : Has _ (nodeH (X.side W.to).A N) := Has.left (B := [_, _, _]) (Has.right (A := [_, _, _, _, _, _, _]) hS.has)
  refine (noutside_ok p hw3 hnk hm (hE.ext (Ext.drawn No _ _) fun _ h => h.elim) hQ').mono ?_
  rintro v w' ⟨rfl, hk⟩
  replace hS := St.callAt (A := fixH X W (X.side W.to) (X.side (1 - W.to)) ⟨some N, (W.side W.to).byt⟩ (W.side (1 - W.to))) (B := [_, _, _]) hS hk
  replace hK := hK.trans (hk.ext.mono fun b hb => .inl hb)
  refine KeepC.mk hK ?_
  (conv => whnf)
  refine hS.stK hK 16 rfl (Nat.le_of_ble_eq_true rfl) rfl (.inr rfl) (fun w' hK hS => KeepC.mk hK ?_)
  (conv => whnf)
  refine hS.laX 16 rfl rfl ?_
  repeat' ((conv => whnf); first | refine RetC.mk ?_ | refine NzC.mk (by decide) ?_ | refine RngC.mk (by omega) (by omega) ?_ | refine IdxC.mk (by omega) (by omega) ?_ | refine brD (fun _ => ?_) (fun _ => ?_) | refine brND (fun _ => ?_) (fun _ => ?_) | refine brN (fun _ => ?_) (fun _ => ?_) | refine brI (fun _ => ?_) (fun _ => ?_))
  exact ⟨rfl, hT (hS.keep 15).turns⟩
end
end Go.Proofs.YtoaghhcjlfiflaaGreatDoor

namespace Go.Proofs.YtoaghhcjlfiflaaGreatDoor
open Go Ev
section
variable {w w' : World} {X : WorldA} {W : WorldS} {E : Nat → Addr} {q m : Nat}
theorem Stands.fix (h : Stands E q m w X W) : Has w (fixH X W X.a X.b W.a W.b) ∧ High (fixH X W X.a X.b W.a W.b) q := ⟨h.has.left, h.high.app.1⟩
theorem Turns.fixed (h : Has w (worldH X W)) {X' : WorldA} {W' : WorldS} (k : Turns w w' (fixH X W X.a X.b W.a W.b) (fixH X' W' X.a X.b W.a W.b)) (ha : X'.a = X.a) (hb : X'.b = X.b) (ka : W'.a = W.a) (kb : W'.b = W.b) : Turns w w' (worldH X W) (worldH X' W') := by
  unfold worldH
  rw [ha, hb, ka, kb]
  exact Turns.frame h k
theorem at_in {W : WorldS} {k : Int} (h : W.at_ k = 0) : ∃ i : Nat, k = i ∧ i < W.fly.length := by
  unfold WorldS.at_ at h
  split at h
  · exact absurd h (by decide)
  · exact ⟨k.toNat, by omega, by omega⟩
theorem ownB_slice {α : Type} {e : TypeId} {sz : Nat} {enc : α → List Value} {a : Option Addr} {n c n' c' : Nat} {xs ys : List α} {b : Nat} (h : b ∈ (ownL e sz enc (.slice a n c) xs).foot) : b ∈ (ownL e sz enc (.slice a n' c') ys).foot := by
  cases a with
  | none => simp [ownL, own, Value.ownBlock] at h
  | some a => simpa [ownL, own, Value.ownBlock] using h
theorem foot_own {α : Type} {e : TypeId} {sz : Nat} {enc : α → List Value} {v : Value} {xs : List α} {b : Nat} (h : v.ownBlock = some b) : b ∈ (ownL e sz enc v xs).foot := by simp [ownL, own, h]
theorem erase_foot {vs : List NoteV} {ns : List NoteS} {k b : Nat} (h : b ∈ (cellsE (vs.eraseIdx k) (ns.eraseIdx k)).foot) : b ∈ (cellsE vs ns).foot := by
  obtain ⟨x, hx, hb⟩ := cellsE_foot.1 h
  exact cellsE_foot.2 ⟨x, List.mem_of_mem_eraseIdx hx, hb⟩
def WorldA.off (X : WorldA) (i : Nat) : WorldA := { X with vs := X.vs.eraseIdx i }
theorem St.takeOff {w0 w w' : World} {S : Nat → Prop} {Y Z : SideA} {s t : SideS} {B : List Ent} {i : Nat} (hS : St w0 S w (fixH X W Y Z s t ++ B)) (hi : i < X.vs.length) (hx : Ext (fun b => (Value.slice X.fa X.vs.length X.fc).ownBlock = some b) w w') (ho : (ownL 107 5 encNV (.slice X.fa (X.vs.length - 1) X.fc) (X.vs.eraseIdx i)).holds w') :
    St w0 S w' ([blk X.w 96 (encWorld X W), blk Y.s 101 (encSide Y s), blk Z.s 101 (encSide Z t), ownL 92 5 encRule (.slice X.ra W.rules.length X.rc) W.rules, ownL 107 5 encNV (.slice X.fa (W.fly.eraseIdx i).length X.fc) (X.vs.eraseIdx i), cellsE (X.vs.eraseIdx i) (W.fly.eraseIdx i), ownL 64 2 encEv (.slice X.ea W.events.length X.ec) W.events] ++ B) := by
  have hc : (cellsE X.vs W.fly).holds w := hS.get 5 rfl
  have hl : X.vs.length = W.fly.length := hc.1
  have hle : (W.fly.eraseIdx i).length = X.vs.length - 1 := by rw [List.length_eraseIdx, if_pos (by omega), hl]
  rw [hle]
  have h1 := hS.upd 4 rfl hx (fun b hb => foot_own (by rw [hl] at hb; exact hb)) ownL_local ho (fun b hb => .inl (ownB_slice hb))
  have hc1 : (cellsE X.vs W.fly).holds w' := h1.get 5 rfl
  exact h1.upd 5 rfl (T := No) (Ext.refl _ _) (fun _ h => h.elim) cellsE_local (cellsE_erase hc1 i) (fun b hb => .inl (erase_foot hb))
theorem wdrop_ok (k : Int) (h : Stands E q m w X W) : CallC Tryz.prog 14 #[.pointer (some ⟨X.w, 0, none⟩), .int .i64 k] w fun v w' => v = errV E (W.drop k).1 ∧ ∃ X', X'.w = X.w ∧ Turns w w' (worldH X W) (worldH X' (W.drop k).2) := by
  refine fn_intro tabOk Tryz.func14 (by kernel_rfl) rfl Tryz.ntmps14 (Nat.le_of_ble_eq_true rfl) ?_
  (conv => whnf)
  refine (wat_ok k h).mono ?_
  rintro v w1 ⟨rfl, hx⟩
  by_cases hu : W.at_ k = 0
  case neg =>
    obtain ⟨j, hj⟩ : ∃ j, W.at_ k = j + 1 := ⟨W.at_ k - 1, by omega⟩
    rw [show W.drop k = (W.at_ k, W) from if_pos hu, hj]
    repeat' ((conv => whnf); first | refine RetC.mk ?_ | refine NzC.mk (by decide) ?_ | refine RngC.mk (by omega) (by omega) ?_ | refine IdxC.mk (by omega) (by omega) ?_ | refine brD (fun _ => ?_) (fun _ => ?_) | refine brND (fun _ => ?_) (fun _ => ?_) | refine brN (fun _ => ?_) (fun _ => ?_) | refine brI (fun _ => ?_) (fun _ => ?_))
    exact ⟨rfl, X, rfl, Turns.of_no h.has hx⟩
  rw [show W.drop k = (0, W.off k) from if_neg (fun h => h hu), hu]
  obtain ⟨i, rfl, hi⟩ := at_in hu
  have hflen := h.ok.fly
  have hT : ∀ {w'}, Turns w w' (fixH X W X.a X.b W.a W.b) (fixH (X.off i) (W.off i) X.a X.b W.a W.b) → Turns w w' (worldH X W) (worldH (X.off i) (W.off i)) := fun k => Turns.fixed h.has k rfl rfl rfl rfl
  have hS := h.fix.1.start.no hx
  have hc : (cellsE X.vs W.fly).holds w1 := hS.get 5 rfl
  have hl : X.vs.length = W.fly.length := hc.1
  have hrow : (ownL 107 5 encNV (.slice X.fa X.vs.length X.fc) X.vs).holds w1 := by rw [hl]; exact hS.get 4 rfl
  clear hx
  (conv => whnf)
  refine hS.ld 0 rfl rfl ?_
  (conv => whnf)
  refine RngC.mk (by omega) (by omega) ?_
  rw [← hl]
  (conv => whnf)
  refine (ndel_ok hrow (by omega) (by omega)).mono ?_
  rintro v w2 ⟨rfl, hx, ho⟩
  replace hS := St.takeOff (B := []) hS (by omega) hx ho
  rw [show X.vs.length - 1 = (W.fly.eraseIdx i).length by rw [List.length_eraseIdx, if_pos hi, hl]]
  (conv => whnf)
  refine hS.st 0 rfl (Nat.le_of_ble_eq_true rfl) rfl (fun w' hS => ?_)
  repeat' ((conv => whnf); first | refine RetC.mk ?_ | refine NzC.mk (by decide) ?_ | refine RngC.mk (by omega) (by omega) ?_ | refine IdxC.mk (by omega) (by omega) ?_ | refine brD (fun _ => ?_) (fun _ => ?_) | refine brND (fun _ => ?_) (fun _ => ?_) | refine brN (fun _ => ?_) (fun _ => ?_) | refine brI (fun _ => ?_) (fun _ => ?_))
  exact ⟨rfl, X.off i, rfl, hT (St.turns hS)⟩
theorem Ev.St.join {w0 w : World} {S : Nat → Prop} {H : List Ent} {e f g : Ent} (h : St w0 S w (e :: f :: H)) (hl : g.Local) (hh : g.holds w) (hf : ∀ b ∈ g.foot, b ∈ e.foot ∨ b ∈ f.foot) : St w0 S w (g :: H) := by
  have hap := List.pairwise_cons.1 h.apart
  have hap2 := List.pairwise_cons.1 hap.2
  have hm : ∀ x ∈ H, x ∈ e :: f :: H := fun x hx => List.mem_cons_of_mem _ (List.mem_cons_of_mem _ hx)
  refine ⟨h.ext, ?_, ?_, ?_, .cons ?_ hap2.2⟩
  · intro x hx
    rcases List.mem_cons.1 hx with rfl | hx
    · exact hh
    · exact h.each x (hm x hx)
  · intro x hx
    rcases List.mem_cons.1 hx with rfl | hx
    · exact hl
    · exact h.loc x (hm x hx)
  · intro x hx b hb
    rcases List.mem_cons.1 hx with rfl | hx
    · rcases hf b hb with h1 | h1
      · exact h.may e List.mem_cons_self b h1
      · exact h.may f (List.mem_cons_of_mem _ List.mem_cons_self) b h1
    · exact h.may x (hm x hx) b hb
  · intro x hx b hb
    rcases hf b hb with h1 | h1
    · exact hap.1 x (List.mem_cons_of_mem _ hx) b h1
    · exact hap2.1 x hx b h1
theorem Ev.St.ldRow {α : Type} {sz : Nat} {enc : α → List Value} {w0 w : World} {S : Nat → Prop} {H : List Ent} (h : St w0 S w H) (C : Codec sz enc) (i : Nat) {e : TypeId} {b o n c k off : Nat} {xs : List α} {x : α} {K : Value → Prop} (hi : H[i]? = some (ownL e sz enc (.slice (some ⟨b, o, none⟩) n c) xs)) (hx : xs[k]? = some x) (ho : off = o + k * sz) (hk : K (.agg (enc x).toArray)) : LdA w b off sz K := by
  subst ho
  have hs := ownL_slc (G := fun _ => True) C (h.get i hi) (fun _ _ => trivial)
  obtain ⟨b0, o0, h1, _, hc⟩ := hs.cells k x hx
  simp only [Option.some.injEq, Addr.mk.injEq] at h1
  obtain ⟨rfl, rfl, _⟩ := h1
  exact ⟨enc x, C.len x, hc, hk⟩
theorem twice_cells {w : World} {vs : List NoteV} {ns : List NoteS} {x : NoteV} {y : NoteS} {k : Nat} (h : (cellsE vs ns).holds w) (hi : NoteIs x y) (hs : Slc w 10 encCell (fun _ => True) x.a x.n y.cells) : (cellsE (vs.take k ++ x :: vs.drop k) (ns.take k ++ y :: ns.drop k)).holds w := by
  have h1 := cellsE_app (cellsE_take h k) (cellsE_app (cellsE_one hi hs) (cellsE_drop h k))
  exact h1
theorem twice_foot {vs : List NoteV} {ns : List NoteS} {x : NoteV} {y : NoteS} {k b : Nat} (h : b ∈ (cellsE (vs.take k ++ x :: vs.drop k) (ns.take k ++ y :: ns.drop k)).foot) : b ∈ (cellsE vs ns).foot ∨ b ∈ footN x := by
  obtain ⟨z, hz, hb⟩ := cellsE_foot.1 h
  rcases List.mem_append.1 hz with hz | hz
  · exact .inl (cellsE_foot.2 ⟨z, List.mem_of_mem_take hz, hb⟩)
  rcases List.mem_cons.1 hz with rfl | hz
  · exact .inr hb
  · exact .inl (cellsE_foot.2 ⟨z, List.mem_of_mem_drop hz, hb⟩)
theorem footN_own {x : NoteV} {b : Nat} (h : b ∈ footN x) : (Value.slice x.a x.n x.c).ownBlock = some b := by
  unfold footN at h
  split at h
  · cases h
  · simpa using h
theorem wtwice_ok (k : Int) (h : Stands E q m w X W) : CallC Tryz.prog 50 #[.pointer (some ⟨X.w, 0, none⟩), .int .i64 k] w fun v w' => v = errV E (W.twice k).1 ∧ ∃ X', X'.w = X.w ∧ Turns w w' (worldH X W) (worldH X' (W.twice k).2) := by
  refine fn_intro tabOk Tryz.func50 (by kernel_rfl) rfl Tryz.ntmps50 (Nat.le_of_ble_eq_true rfl) ?_
  (conv => whnf)
  refine (wat_ok k h).mono ?_
  rintro v w1 ⟨rfl, hx⟩
  by_cases hu : W.at_ k = 0
  case neg =>
    obtain ⟨j, hj⟩ : ∃ j, W.at_ k = j + 1 := ⟨W.at_ k - 1, by omega⟩
    rw [show W.twice k = (W.at_ k, W) from if_pos hu, hj]
    repeat' ((conv => whnf); first | refine RetC.mk ?_ | refine NzC.mk (by decide) ?_ | refine RngC.mk (by omega) (by omega) ?_ | refine IdxC.mk (by omega) (by omega) ?_ | refine brD (fun _ => ?_) (fun _ => ?_) | refine brND (fun _ => ?_) (fun _ => ?_) | refine brN (fun _ => ?_) (fun _ => ?_) | refine brI (fun _ => ?_) (fun _ => ?_))
    exact ⟨rfl, X, rfl, Turns.of_no h.has hx⟩
  rw [hu]
  obtain ⟨i, rfl, hi⟩ := at_in hu
  have hflen := h.ok.fly
  have hqF : ∀ b, inF (fixH X W X.a X.b W.a W.b) b → q ≤ b := h.fix.2
  have hS := h.fix.1.start.no hx
  clear hx
  (conv => whnf)
  refine hS.ld 0 rfl rfl ?_
  (conv => whnf)
  refine brD (fun h3 => ?_) (fun h3 => ?_)
  · rw [show W.twice i = (6, W) by unfold WorldS.twice; rw [if_neg (fun h => h hu), if_pos (by omega)]]
    repeat' ((conv => whnf); first | refine RetC.mk ?_ | refine NzC.mk (by decide) ?_ | refine RngC.mk (by omega) (by omega) ?_ | refine IdxC.mk (by omega) (by omega) ?_ | refine hS.ldr (h.errs.at_ 6 rfl) (Errs.out h.errs 6 rfl hqF) ?_ | refine brD (fun _ => ?_) (fun _ => ?_) | refine brND (fun _ => ?_) (fun _ => ?_) | refine brN (fun _ => ?_) (fun _ => ?_) | refine brI (fun _ => ?_) (fun _ => ?_))
    exact ⟨rfl, X, rfl, Turns.frame h.has (St.turns hS)⟩
  have hc : (cellsE X.vs W.fly).holds w1 := hS.get 5 rfl
  have hl : X.vs.length = W.fly.length := hc.1
  obtain ⟨x, hxi⟩ : ∃ x, X.vs[i]? = some x := ⟨_, List.getElem?_eq_getElem (by omega)⟩
  obtain ⟨y, hyi⟩ : ∃ y, W.fly[i]? = some y := ⟨_, List.getElem?_eq_getElem (by omega)⟩
  obtain ⟨hxy, hsl⟩ := cellsE_get hc hxi hyi
  have hyl := (h.ok.notes y (List.mem_of_getElem? hyi)).2
  have hxn : x.n = y.cells.length := hsl.len.symm
  obtain ⟨g, o, hfa⟩ : ∃ g o, X.fa = some ⟨g, o, none⟩ := by
    obtain ⟨b0, o0, h1, _⟩ := (ownL_slc (G := fun _ => True) codNote (hS.get 4 rfl) (fun _ _ => trivial)).cells i x hxi
    exact ⟨b0, o0, h1⟩
  have hw : W.twice i = (0, { W with fly := W.fly.take (i + 1) ++ y :: W.fly.drop (i + 1) }) := by
    unfold WorldS.twice
    rw [if_neg (fun h => h hu), if_neg (by omega)]
    show (match W.fly[(i : Int).toNat]? with | none => _ | some x => _) = _
    rw [Int.toNat_natCast, hyi]
  rw [hw]
  clear hc hsl hw hu
  have hI : ∀ {w2 : World} {b : Nat} {a' : Option Addr} {c' : Nat}, Has w2 [ownL 107 5 encNV (.slice X.fa W.fly.length X.fc) X.vs, blk b 107 (encNV (x.with a' c'))] → CallC Tryz.prog 97 #[.slice (some ⟨g, o, none⟩) W.fly.length X.fc, .int .i64 ((i : Int) + 1), .slice (some ⟨b, 0, none⟩) 1 1] w2 fun v w' =>
      ∃ a2 c2, v = .slice a2 (W.fly.length + 1) c2 ∧ Turns w2 w' [ownL 107 5 encNV (.slice X.fa W.fly.length X.fc) X.vs, blk b 107 (encNV (x.with a' c'))] [ownL 107 5 encNV (.slice a2 (W.fly.length + 1) c2) (X.vs.take (i + 1) ++ x.with a' c' :: X.vs.drop (i + 1)), blk b 107 (encNV (x.with a' c'))] := by
    intro w2 b a' c' hH
    rw [← hl] at hH ⊢
    rw [← hfa]
    exact nins_ok (k := i + 1) hH (by omega) (by omega)
  have hfin : ∀ {w' : World} {a2 a' : Option Addr} {c2 c' : Nat}, St w (inF (fixH X W X.a X.b W.a W.b)) w' [blk X.w 96 (encWorld { X with fa := a2, fc := c2 } { W with fly := W.fly.take (i + 1) ++ y :: W.fly.drop (i + 1) }), blk X.a.s 101 (encSide X.a W.a), blk X.b.s 101 (encSide X.b W.b), ownL 92 5 encRule (.slice X.ra W.rules.length X.rc) W.rules, ownL 107 5 encNV (.slice a2 (W.fly.length + 1) c2) (X.vs.take (i + 1) ++ x.with a' c' :: X.vs.drop (i + 1)), cellsE X.vs W.fly, ownL 64 2 encEv (.slice X.ea W.events.length X.ec) W.events, ownL 59 10 encCell (.slice a' x.n c') y.cells] →
      ∃ X', X'.w = X.w ∧ Turns w w' (worldH X W) (worldH X' { W with fly := W.fly.take (i + 1) ++ y :: W.fly.drop (i + 1) }) := by
    intro w' a2 a' c2 c' hS
    refine ⟨{ X with fa := a2, fc := c2, vs := X.vs.take (i + 1) ++ x.with a' c' :: X.vs.drop (i + 1) }, rfl, ?_⟩
    have hcs : Slc w' 10 encCell (fun _ => True) a' x.n y.cells := ownL_slc codCell (hS.get 7 rfl) (fun _ _ => trivial)
    have hS2 := (hS.sel [5, 7, 0, 1, 2, 3, 4, 6] (by decide)).join (g := cellsE (X.vs.take (i + 1) ++ x.with a' c' :: X.vs.drop (i + 1)) (W.fly.take (i + 1) ++ y :: W.fly.drop (i + 1))) cellsE_local (twice_cells (hS.get 5 rfl) ⟨hxy.fro, hxy.life, hxy.epoch, hxy.claim⟩ hcs) (fun b hb => (twice_foot hb).imp id fun h => foot_own (footN_own h))
    have hll : (W.fly.take (i + 1) ++ y :: W.fly.drop (i + 1)).length = W.fly.length + 1 := by
      simp only [List.length_append, List.length_cons, List.length_take, List.length_drop]
      omega
    rw [← hll] at hS2
    exact Turns.fixed h.has (St.turns (hS2.sel [1, 2, 3, 4, 5, 0, 6] (by decide))) rfl rfl rfl rfl
  have hll : (W.fly.take (i + 1) ++ y :: W.fly.drop (i + 1)).length = W.fly.length + 1 := by
    simp only [List.length_append, List.length_cons, List.length_take, List.length_drop]
    omega
  (conv => whnf)
  refine drawT tabOk mixed [4, 10, 13] (fun _ => True) (.take 0 (.take 1 (.take 2 (.take 3 (.take 5 (.take 6 (.take 7 (.take 8 (.take 9 (.take 11 (.alt 4 (.alt 10 (.take 12 (.alt 13 (.alt 14 (.alt 15 (.alt 16 (.take 17 (.take 18 (.alt 19 .fin .fin))) .fin) .fin) .fin) .fin)) .fin) (.alt 10 (.take 12 (.alt 4 (.alt 13 (.alt 14 (.alt 15 (.alt 16 (.take 17 (.take 18 (.alt 19 .fin .fin))) .fin) .fin) .fin) .fin) (.alt 13 (.alt 4 (.alt 14 (.alt 15 (.alt 16 (.take 17 (.take 18 (.alt 19 .fin .fin))) .fin) .fin) .fin) (.alt 14 (.alt 4 (.alt 15 (.alt 16 (.take 17 (.take 18 (.alt 19 .fin .fin))) .fin) .fin) (.alt 15 (.alt 4 (.alt 16 (.take 17 (.take 18 (.alt 19 .fin .fin))) .fin) .fin) .fin)) .fin)) .fin))) .fin)))))))))))) (by kernel_rfl) ?_
  rintro w1 rfl
  replace hS := hS.drew
  have hK := hS.ref (fun _ => True)
  repeat' ((conv => whnf); first | refine RetC.mk ?_ | refine NzC.mk (by decide) ?_ | refine RngC.mk (by omega) (by omega) ?_ | refine IdxC.mk (by omega) (by omega) ?_ | refine hS.ld 0 rfl (v := .slice (some ⟨g, o, none⟩) W.fly.length X.fc) (by rw [← hfa]; rfl) (KeepC.mk hK ?_) | refine hS.ldRow codNote 4 (by rw [← hfa]; rfl) hxi rfl (KeepC.mk hK ?_) | (refine (wown_ok (cellsE_get (hS.get 5 rfl) hxi hyi).2 (by omega)).mono ?_; rintro v w2 ⟨a', c', rfl, hx, ho, hf⟩; replace hS := hS.made hx ownL_local ho (fun g hg => hf g (by simpa [ownL, own] using hg)); replace hK := hK.trans hx.of_no; clear hx ho hf; refine KeepC.mk hK ?_) | (refine hS.litX Tryz.underlying81 (sz := 5) (by kernel_rfl) (z := .agg (encNV noNV).toArray) (by kernel_rfl) rfl rfl (cs := encNV (x.with a' c')) (by rfl) (fun b9 w3 hb9 hx hS => ?_); replace hK := hK.trans hx.of_no; clear hx; refine KeepC.mk hK ?_) | (have hS2 := hS.sel [4, 8, 0, 1, 2, 3, 5, 6, 7] (by decide); refine (hI (Has.left (A := [_, _]) (B := [_, _, _, _, _, _, _]) hS2.has)).mono ?_; rintro v w4 ⟨a2, c2, rfl, hk⟩; replace hS := (St.call (H := [_, _]) (B := [_, _, _, _, _, _, _]) hS2 hk).sel [2, 3, 4, 5, 0, 6, 7, 8] (by decide); replace hK := hK.trans (hk.ext.mono fun _ _ => trivial); clear hS2 hk; refine KeepC.mk hK ?_) | (refine hS.stK hK 0 rfl (Nat.le_of_ble_eq_true rfl) rfl trivial (fun w' hK hS => KeepC.mk hK ?_)) | (refine ⟨rfl, hfin (a2 := a2) (a' := a') (c2 := c2) (c' := c') ?_⟩; rw [← hll] at hS ⊢; exact hS) | refine And.intro ?_ ?_ | refine brD (fun _ => ?_) (fun _ => ?_) | refine brND (fun _ => ?_) (fun _ => ?_) | refine brN (fun _ => ?_) (fun _ => ?_) | refine brI (fun _ => ?_) (fun _ => ?_))
theorem eclone_ok {G : Int × Int → Prop} {a : Option Addr} {n c : Nat} {xs : List (Int × Int)} (hx : Slc w 2 encEv G a n xs) (hn : n ≤ 2000) :
    CallC Tryz.prog 62 #[.slice a n c] w fun v w' => ∃ a' c', v = .slice a' n c' ∧ Ext No w w' ∧ (ownL 64 2 encEv v xs).holds w' ∧ Fresh w w' v := by
  have hl := hx.len
  refine fn_intro tabOk Tryz.func62 (by kernel_rfl) rfl Tryz.ntmps62 (Nat.le_of_ble_eq_true rfl) ?_
  have hS := St.start w No
  cases a with
  | none =>
    have hn0 : n = 0 := by
      rcases Nat.eq_zero_or_pos n with h | h
      · exact h
      · obtain ⟨_, _, _, _, _, h, _⟩ := hx.at h
        cases h
    subst hn0
    obtain rfl : xs = [] := List.length_eq_zero_iff.1 hl
    repeat' ((conv => whnf); first | refine RetC.mk ?_ | refine NzC.mk (by decide) ?_ | refine RngC.mk (by omega) (by omega) ?_ | refine IdxC.mk (by omega) (by omega) ?_ | refine brD (fun _ => ?_) (fun _ => ?_) | refine brND (fun _ => ?_) (fun _ => ?_) | refine brN (fun _ => ?_) (fun _ => ?_) | refine brI (fun _ => ?_) (fun _ => ?_))
    have hS := hS.addNil 64 2 encEv
    exact ⟨none, 0, rfl, hS.ext, hS.get 0 rfl, hS.freshAt 0 rfl⟩
  | some a0 =>
    (conv => whnf)
    refine hS.lit0 Tryz.underlying60 (sz := 2) (by kernel_rfl) (fun b0 w1 hS => ?_)
    (conv => whnf)
    refine hS.appS codEv 0 (xs := []) Tryz.underlying60 (bytes := 16) (by kernel_rfl) (z := .agg (encEv (0, 0)).toArray) (by kernel_rfl) rfl rfl (hx.no hS.ext) (by unfold maxLen; simp; omega) (by simp; omega) (fun a' c' w' hS => ?_)
    repeat' ((conv => whnf); first | refine RetC.mk ?_ | refine NzC.mk (by decide) ?_ | refine RngC.mk (by omega) (by omega) ?_ | refine IdxC.mk (by omega) (by omega) ?_ | refine brD (fun _ => ?_) (fun _ => ?_) | refine brND (fun _ => ?_) (fun _ => ?_) | refine brN (fun _ => ?_) (fun _ => ?_) | refine brI (fun _ => ?_) (fun _ => ?_))
    have hn0 : ([] : List (Int × Int)).length + n = n := by simp
    rw [hn0] at hS ⊢
    exact ⟨a', c', rfl, hS.ext, hS.get 0 rfl, hS.freshAt 0 rfl⟩
theorem wevents_ok (h : Stands E q m w X W) : CallC Tryz.prog 24 #[.pointer (some ⟨X.w, 0, none⟩)] w fun v w' => ∃ a' c', v = .slice a' W.events.length c' ∧ Ext No w w' ∧ (ownL 64 2 encEv v W.events).holds w' ∧ Fresh w w' v := by
  have he := h.ok.events
  refine fn_intro tabOk Tryz.func24 (by kernel_rfl) rfl Tryz.ntmps24 (Nat.le_of_ble_eq_true rfl) ?_
  have hS := h.fix.1.start
  (conv => whnf)
  refine hS.ld 0 rfl rfl ?_
  (conv => whnf)
  refine (eclone_ok (ownL_slc (G := fun _ => True) codEv (hS.get 6 rfl) (fun _ _ => trivial)) (by omega)).mono ?_
  rintro v w' ⟨a', c', rfl, hx, ho, hf⟩
  repeat' ((conv => whnf); first | refine RetC.mk ?_ | refine NzC.mk (by decide) ?_ | refine RngC.mk (by omega) (by omega) ?_ | refine IdxC.mk (by omega) (by omega) ?_ | refine brD (fun _ => ?_) (fun _ => ?_) | refine brND (fun _ => ?_) (fun _ => ?_) | refine brN (fun _ => ?_) (fun _ => ?_) | refine brI (fun _ => ?_) (fun _ => ?_))
  exact ⟨a', c', rfl, hx, ho, hf⟩
end
end Go.Proofs.YtoaghhcjlfiflaaGreatDoor
