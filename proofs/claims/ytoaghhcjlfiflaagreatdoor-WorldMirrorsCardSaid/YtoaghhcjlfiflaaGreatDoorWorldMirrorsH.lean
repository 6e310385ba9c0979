/-
  Texts of this claim, joined: MirS, MirT, WorldDk, WorldFk, PlayK, WorldMirrors.
-/
import Derived.Test.YtoaghhcjlfiflaaGreatDoorWorldMirrorsG

namespace Go.Proofs.YtoaghhcjlfiflaaGreatDoor
open Go Ev
def Und (c d : CellS) : Prop := c.slot = d.slot ∧ c.ver ≤ d.ver ∧ (c.ver = d.ver → c = d)
structure Under (l T : List CellS) : Prop where
  len : l.length = 32
  at_ : ∀ s : Nat, s < 32 → ∃ c d, l[s]? = some c ∧ T[s]? = some d ∧ Und c d
def CellU (c : CellS) (T : List CellS) : Prop := ∃ i : Nat, i < 32 ∧ c.slot = i ∧ ∃ d, T[i]? = some d ∧ Und c d
theorem Und.refl (c : CellS) : Und c c := ⟨rfl, Int.le_refl _, fun _ => rfl⟩
theorem Und.trans {c d e : CellS} (h : Und c d) (g : Und d e) : Und c e := by
  obtain ⟨h1, h2, h3⟩ := h
  obtain ⟨g1, g2, g3⟩ := g
  refine ⟨h1.trans g1, by omega, fun he => ?_⟩
  rw [h3 (by omega), g3 (by omega)]
section
variable {l T U : List CellS} {c : CellS}
theorem Under.refl (h : l.length = 32) : Under l l := ⟨h, fun s hs => ⟨l[s]'(by omega), l[s]'(by omega), List.getElem?_eq_getElem _, List.getElem?_eq_getElem _, Und.refl _⟩⟩
theorem Under.trans (h : Under l T) (g : Under T U) : Under l U := ⟨h.len, fun s hs => by
  obtain ⟨c, d, h1, h2, h3⟩ := h.at_ s hs
  obtain ⟨d', e, g1, g2, g3⟩ := g.at_ s hs
  obtain rfl := Option.some.inj (h2.symm.trans g1)
  exact ⟨c, e, h1, g2, h3.trans g3⟩⟩
theorem CellU.trans (h : CellU c T) (g : Under T U) : CellU c U := by
  obtain ⟨i, hi, hs, d, hd, hu⟩ := h
  obtain ⟨d', e, g1, g2, g3⟩ := g.at_ i hi
  obtain rfl := Option.some.inj (hd.symm.trans g1)
  exact ⟨i, hi, hs, e, g2, hu.trans g3⟩
theorem Under.antisymm (h : Under l T) (g : Under T l) (hT : T.length = 32) : l = T := by
  refine List.ext_getElem? fun s => ?_
  by_cases hs : s < 32
  · obtain ⟨c, d, h1, h2, h3⟩ := h.at_ s hs
    obtain ⟨d', c', g1, g2, g3⟩ := g.at_ s hs
    obtain rfl := Option.some.inj (h2.symm.trans g1)
    obtain rfl := Option.some.inj (h1.symm.trans g2)
    rw [h1, h2, h3.2.2 (by have := h3.2.1; have := g3.2.1; omega)]
  · rw [List.getElem?_eq_none (by rw [h.len]; omega), List.getElem?_eq_none (by rw [hT]; omega)]
theorem Under.setF (h : l.length = 32) (k : Nat) (f : FlowS) : Under l (setF l k f) := by
  by_cases hk : k < 32
  · rw [setF_at (List.getElem?_eq_getElem (by omega : k < l.length))]
    refine ⟨h, fun s hs => ?_⟩
    by_cases hsk : s = k
    · subst hsk
      exact ⟨l[s]'(by omega), _, List.getElem?_eq_getElem _, List.getElem?_set_self (by omega), rfl, by dsimp only; omega, fun he => by dsimp only at he; omega⟩
    · exact ⟨l[s]'(by omega), l[s]'(by omega), List.getElem?_eq_getElem _, by rw [List.getElem?_set_ne (Ne.symm hsk)]; exact List.getElem?_eq_getElem _, Und.refl _⟩
  · unfold Go.Proofs.YtoaghhcjlfiflaaGreatDoor.setF
    rw [List.getElem?_eq_none (by omega)]
    exact Under.refl h
theorem Under.exp (h : l.length = 32) (now : Int) : Under l (expCells now 32 l) := by
  have he : expCells now 32 l = l.map (dropC now) := by
    unfold expCells
    rw [List.take_of_length_le (by omega), List.drop_of_length_le (by omega), List.append_nil]
  rw [he]
  refine ⟨h, fun s hs => ⟨l[s]'(by omega), dropC now (l[s]'(by omega)), List.getElem?_eq_getElem _, by rw [List.getElem?_map, List.getElem?_eq_getElem (by omega : s < l.length)]; rfl, ?_⟩⟩
  generalize l[s]'(by omega) = c
  unfold dropC
  split
  · exact ⟨rfl, by dsimp only; omega, fun he => by dsimp only at he; omega⟩
  · exact Und.refl c
theorem Under.lay {T : MirS} (h : T.cells.length = 32) (f : FlowS) : Under T.cells (T.lay f).2.cells := by
  unfold MirS.lay
  split
  · exact Under.refl h
  · exact Under.setF h _ _
theorem Under.mput {T : MirS} (h : T.cells.length = 32) (f : FlowS) : Under T.cells (T.put f).2.cells := by
  unfold MirS.put
  split
  · exact Under.refl h
  · exact Under.lay h f
theorem Under.add {T : MirS} (h : T.cells.length = 32) (pr ia ip fa fp st un : Int) : Under T.cells (T.add pr ia ip fa fp st un).2.cells := by
  unfold MirS.add
  split
  · exact Under.refl h
  split
  · exact Under.lay h _
  · exact Under.refl h
theorem Under.setS {T : MirS} (h : T.cells.length = 32) (k st un : Int) : Under T.cells (T.setS k st un).2.cells := by
  unfold MirS.setS
  split
  · exact Under.refl h
  · exact Under.setF h _ _
theorem Under.drop {T : MirS} (h : T.cells.length = 32) (k : Int) : Under T.cells (T.drop k).2.cells := by
  unfold MirS.drop
  split
  · exact Under.refl h
  · exact Under.setF h _ _
theorem Under.putAll (now : Int) : ∀ (fs : List FlowS) {T : MirS} {m : Nat}, TOk m T → Under T.cells (putAll now T fs).cells
  | [], _, _, h => Under.refl h.len
  | f :: fs, T, m, h => (Under.mput h.len { f with til := now + timeS f.proto f.state }).trans (Under.putAll now fs (h.put { f with til := now + timeS f.proto f.state }))
theorem Under.put1 (h : Under l T) (hc : CellU c T) : Under (put1C l c) T := by
  obtain ⟨i, hi, hs, d, hd, hu⟩ := hc
  obtain ⟨b, d', hb, hd', hbd⟩ := h.at_ i hi
  unfold put1C
  rw [hs, Int.toNat_natCast, hb]
  dsimp only
  split
  · refine ⟨by rw [List.length_set]; exact h.len, fun s hs => ?_⟩
    by_cases hsi : s = i
    · subst hsi
      exact ⟨c, d, List.getElem?_set_self (by rw [h.len]; exact hi), hd, hu⟩
    · rw [List.getElem?_set_ne (Ne.symm hsi)]
      exact h.at_ s hs
  · exact h
theorem Under.fold : ∀ (xs : List CellS) {l : List CellS}, Under l T → (∀ c ∈ xs, CellU c T) → Under (xs.foldl put1C l) T
  | [], _, h, _ => h
  | x :: xs, _, h, hx => Under.fold xs (h.put1 (hx x List.mem_cons_self)) fun c hc => hx c (List.mem_cons_of_mem _ hc)
def Gots (l T : List CellS) (K : Nat → Prop) : Prop := ∀ k : Nat, k < 32 → K k → l[k]? = T[k]?
theorem Gots.put {K : Nat → Prop} (g : Gots l T K) (h : Under l T) {k : Nat} (hk : k < 32) (hT : T[k]? = some c) (hs : c.slot = k) : Gots (put1C l c) T (fun i => K i ∨ i = k) := by
  obtain ⟨b, d, hb, hd, hbd⟩ := h.at_ k hk
  obtain rfl := Option.some.inj (hT.symm.trans hd)
  unfold put1C
  rw [hs, Int.toNat_natCast, hb]
  dsimp only
  intro i hi hK
  split
  · by_cases hik : i = k
    · subst hik
      rw [List.getElem?_set_self (by rw [h.len]; exact hi), hT]
    · rw [List.getElem?_set_ne (Ne.symm hik)]
      exact g i hi (hK.resolve_right hik)
  · rename_i hv
    by_cases hik : i = k
    · subst hik
      rw [hb, hT, hbd.2.2 (by have := hbd.2.1; omega)]
    · exact g i hi (hK.resolve_right hik)
theorem Gots.puts (hs : ∀ (k : Nat) c, T[k]? = some c → c.slot = k) (hl : T.length = 32) : ∀ {p : List Nat} {K : Nat → Prop} {l : List CellS}, Gots l T K → Under l T → (∀ x ∈ p, x < 32) → Gots ((outC T p).foldl put1C l) T (fun i => K i ∨ i ∈ p)
  | [], K, l, g, _, _ => fun k hk hK => g k hk (hK.resolve_right (by simp))
  | x :: p, K, l, g, h, hp => by
    have hx := hp x List.mem_cons_self
    obtain ⟨c, hc⟩ : ∃ c, T[x]? = some c := ⟨_, List.getElem?_eq_getElem (by omega)⟩
    have h1 := g.put h hx hc (hs x c hc)
    have h2 := h.put1 (c := c) ⟨x, hx, hs x c hc, c, hc, Und.refl c⟩
    have h3 := Gots.puts hs hl h1 h2 (p := p) fun y hy => hp y (List.mem_cons_of_mem _ hy)
    show Gots ((outC T p).foldl put1C (put1C l (cellAt T x))) T _
    rw [cellAt_of hc]
    intro k hk hK
    refine h3 k hk ?_
    rcases hK with hK | hK
    · exact .inl (.inl hK)
    · rcases List.mem_cons.1 hK with rfl | hK
      · exact .inl (.inr rfl)
      · exact .inr hK
theorem Gots.full {K : Nat → Prop} (g : Gots l T K) (h1 : l.length = 32) (h2 : T.length = 32) (hK : ∀ k, k < 32 → K k) : l = T := by
  refine List.ext_getElem? fun s => ?_
  by_cases hs : s < 32
  · exact g s hs (hK s hs)
  · rw [List.getElem?_eq_none (by omega), List.getElem?_eq_none (by omega)]
end

theorem put_li (C : CelS) (B : BytS) (e : Int) : (C.put B e C.li).2.2.li = C.li := by
  unfold CelS.put
  repeat' split
  all_goals first | rfl | simp
theorem notes_mg {m : Nat} {N : NodeS} (hN : NOk m N) (k : Bool) : ∀ x ∈ (N.notes k).1, x.claim = false → x.life = N.cell.li ∧ ∀ c ∈ x.cells, ∃ i : Nat, i < 32 ∧ N.tab.cells[i]? = some c ∧ c.slot = i := by
  intro x hx hc
  unfold NodeS.notes at hx
  dsimp only at hx
  rcases List.mem_append.1 hx with hx | hx
  · split at hx
    · obtain rfl := List.mem_singleton.1 hx
      cases hc
    · cases hx
  · split at hx
    · obtain rfl := List.mem_singleton.1 hx
      refine ⟨rfl, fun c hc => ?_⟩
      dsimp only at hc
      unfold outC at hc
      obtain ⟨i, hi, rfl⟩ := List.mem_map.1 hc
      have hi2 := (picks_law N.tab.cells hN.cur).lt i hi
      have hg := List.getElem?_eq_getElem (l := N.tab.cells) (by rw [hN.tab.len]; exact hi2 : i < N.tab.cells.length)
      rw [cellAt_of hg]
      exact ⟨i, hi2, hg, hN.tab.slot i _ hg⟩
    · cases hx
structure TickM (N : NodeS) (B : BytS) (T : Nat × List NoteS × NodeS × BytS) : Prop where
  li : (openS T.2.2.2.data).li = (openS B.data).li
  tab : Under N.tab.cells T.2.2.1.tab.cells
  mir : T.2.2.1.mir = N.mir
  notes : ∀ x ∈ T.2.1, x.claim = false → x.life = N.cell.li ∧ ∀ c ∈ x.cells, ∃ i : Nat, i < 32 ∧ T.2.2.1.tab.cells[i]? = some c ∧ c.slot = i
theorem tickM {m : Nat} {N : NodeS} {B : BytS} (hN : NOk m N) (hm : m ≤ 40000000) (hB : BOk B) (hoff : B.off = false) (hc : openS B.data = N.cell) : TickM N B (N.tick B) := by
  obtain ⟨r1, r2, r3, r4⟩ := tick4 N.role
  have hu : Under N.tab.cells N.step.2.tab.cells := Under.exp hN.tab.len _
  unfold NodeS.tick
  split
  · exact ⟨rfl, Under.refl hN.tab.len, rfl, fun x hx => by cases hx⟩
  rename_i hnow
  have hst := hN.step (by omega) (by omega)
  split
  · rename_i h1
    have hna : N.role.active = false := r4 h1
    have hsa : N.step.2.role.active = false := r2.trans hna
    have hclm := hst.claim hsa B
    have hsc : openS B.data = N.step.2.cell := hc
    have hsl : N.step.2.cell.li = N.cell.li := rfl
    have hsm : N.step.2.mir = N.mir := rfl
    generalize N.step.2 = M at hu hst hsa hsc hsl hsm hclm
    have hM : ((M.claim B).2.1.cell.li = M.cell.li) ∧ (openS (M.claim B).2.2.data).li = (openS B.data).li ∧ Under M.tab.cells (M.claim B).2.1.tab.cells ∧ (M.claim B).2.1.mir = M.mir := by
      unfold NodeS.claim
      split
      · exact ⟨rfl, rfl, Under.refl hst.tab.len, rfl⟩
      · obtain ⟨_, _, p2⟩ := put_cut (C := M.cell) (e := M.role.next.1) (l := (M.cell.li : Int)) hB hoff hsc
        have hli : (openS (M.cell.put B M.role.next.1 M.cell.li).2.1.data).li = (openS B.data).li := by
          rw [hsc]
          rcases p2 with ⟨_, p4, _, _, _, _, p9⟩ | ⟨_, p4, _⟩ | ⟨_, p4⟩
          · rw [p4]
            omega
          · rw [p4]
          · rw [p4, hsc]
        split
        · exact ⟨put_li _ _ _, hli, Under.refl hst.tab.len, rfl⟩
        · exact ⟨put_li _ _ _, hli, Under.putAll _ _ hst.tab, rfl⟩
    obtain ⟨q1, q2, q3, q4⟩ := hM
    split
    · exact ⟨q2, hu.trans q3, q4.trans hsm, fun x hx => by cases hx⟩
    · obtain ⟨n1, n2, n3, n4, n5, _⟩ := notes_same (M.claim B).2.1 (M.claim B).1.1
      have hnt := notes_mg hclm (M.claim B).1.1
      refine ⟨q2, ?_, ?_, fun x hx hxc => ?_⟩
      · show Under _ ((M.claim B).2.1.notes (M.claim B).1.1).2.tab.cells
        rw [n4]
        exact hu.trans q3
      · show ((M.claim B).2.1.notes (M.claim B).1.1).2.mir = _
        rw [n5]
        exact q4.trans hsm
      · show _ ∧ ∀ c ∈ x.cells, ∃ i : Nat, i < 32 ∧ ((M.claim B).2.1.notes (M.claim B).1.1).2.tab.cells[i]? = some c ∧ c.slot = i
        rw [n4]
        obtain ⟨a, b⟩ := hnt x hx hxc
        exact ⟨by rw [a, q1, hsl], b⟩
  · obtain ⟨n1, n2, n3, n4, n5, _⟩ := notes_same N.step.2 false
    refine ⟨rfl, ?_, ?_, fun x hx hxc => ?_⟩
    · show Under _ (N.step.2.notes false).2.tab.cells
      rw [n4]
      exact hu
    · show (N.step.2.notes false).2.mir = _
      rw [n5]
      rfl
    · show _ ∧ ∀ c ∈ x.cells, ∃ i : Nat, i < 32 ∧ (N.step.2.notes false).2.tab.cells[i]? = some c ∧ c.slot = i
      rw [n4]
      exact notes_mg hst false x hx hxc

def lif (s : SideS) : Int := ((openS s.byt.data).li : Int)
structure Dir (n : Int) (sn sm : SideS) (fly : List NoteS) : Prop where
  tab : ∀ N, sn.node = some N → Under emptyCells N.tab.cells ∧ 1 ≤ lif sn
  mir : ∀ M, sm.node = some M → M.mir.life ≤ lif sn ∧ (M.mir.life = lif sn → ∀ N, sn.node = some N → Under M.mir.cells N.tab.cells)
  fly : ∀ x ∈ fly, x.fro = n → x.claim = false → x.life ≤ lif sn ∧ (x.life = lif sn → ∀ N, sn.node = some N → ∀ c ∈ x.cells, CellU c N.tab.cells)
section
variable {n : Int} {sn sm s' : SideS} {fly : List NoteS}
theorem Dir.teller (h : Dir n sn sm fly) (hL : lif s' = lif sn) (hN : ∀ N', s'.node = some N' → ∃ N, sn.node = some N ∧ Under N.tab.cells N'.tab.cells) : Dir n s' sm fly := by
  refine ⟨fun N' hN' => ?_, fun M hM => ?_, fun x hx hf hc => ?_⟩
  · obtain ⟨N, h1, h2⟩ := hN N' hN'
    rw [hL]
    exact ⟨(h.tab N h1).1.trans h2, (h.tab N h1).2⟩
  · rw [hL]
    refine ⟨(h.mir M hM).1, fun he N' hN' => ?_⟩
    obtain ⟨N, h1, h2⟩ := hN N' hN'
    exact ((h.mir M hM).2 he N h1).trans h2
  · rw [hL]
    refine ⟨(h.fly x hx hf hc).1, fun he N' hN' c hcc => ?_⟩
    obtain ⟨N, h1, h2⟩ := hN N' hN'
    exact ((h.fly x hx hf hc).2 he N h1 c hcc).trans h2
theorem Dir.newer (h : Dir n sn sm fly) (hL : lif sn < lif s') (hN : ∀ N', s'.node = some N' → N'.tab.cells = emptyCells) : Dir n s' sm fly := by
  have h0 : 0 ≤ lif sn := Int.natCast_nonneg _
  refine ⟨fun N' hN' => ?_, fun M hM => ?_, fun x hx hf hc => ?_⟩
  · rw [hN N' hN']
    exact ⟨Under.refl emptyCells_len, by omega⟩
  · have := (h.mir M hM).1
    exact ⟨by omega, fun he => by omega⟩
  · have := (h.fly x hx hf hc).1
    exact ⟨by omega, fun he => by omega⟩
theorem Dir.hearer (h : Dir n sn sm fly) (hM : ∀ M', s'.node = some M' → M'.mir = ⟨0, emptyCells⟩ ∨ ∃ M, sm.node = some M ∧ M'.mir = M.mir) : Dir n sn s' fly := by
  refine ⟨h.tab, fun M' hM' => ?_, h.fly⟩
  rcases hM M' hM' with he | ⟨M, h1, he⟩
  · rw [he]
    exact ⟨Int.natCast_nonneg _, fun _ N hN => (h.tab N hN).1⟩
  · rw [he]
    exact h.mir M h1
theorem Dir.flown (h : Dir n sn sm fly) {fly' : List NoteS} (hf : ∀ x ∈ fly', x ∈ fly ∨ (x.fro = n → x.claim = false → x.life ≤ lif sn ∧ (x.life = lif sn → ∀ N, sn.node = some N → ∀ c ∈ x.cells, CellU c N.tab.cells))) : Dir n sn sm fly' :=
  ⟨h.tab, h.mir, fun x hx h1 h2 => (hf x hx).elim (fun g => h.fly x g h1 h2) fun g => g h1 h2⟩
theorem Dir.told (h : Dir n sn sm fly) {M M' : NodeS} {B : BytS} {x : NoteS} (hM : sm.node = some M) (hl : M.mir.cells.length = 32) (hx : x.life ≤ lif sn ∧ (x.life = lif sn → ∀ N, sn.node = some N → ∀ c ∈ x.cells, CellU c N.tab.cells))
    (hM' : M'.mir = M.mir ∨ M'.mir = (M.mir.tell x.life x.cells).2) : Dir n sn ⟨some M', B⟩ fly := by
  refine ⟨h.tab, fun M2 hM2 => ?_, h.fly⟩
  obtain rfl := Option.some.inj hM2
  obtain ⟨g1, g2⟩ := h.mir M hM
  rcases hM' with he | he
  · rw [he]
    exact ⟨g1, g2⟩
  rw [he]
  unfold MirS.tell
  split
  · exact ⟨g1, g2⟩
  split
  · exact ⟨g1, g2⟩
  rename_i h1 h2
  dsimp only
  by_cases h3 : x.life > M.mir.life
  · rw [if_pos h3, if_pos h3]
    exact ⟨hx.1, fun he N hN => Under.fold _ (h.tab N hN).1 (hx.2 he N hN)⟩
  · rw [if_neg h3, if_neg h3]
    exact ⟨g1, fun he N hN => Under.fold _ (g2 he N hN) (hx.2 (by omega) N hN)⟩
end
structure MG (W : WorldS) : Prop where
  a : Dir 0 W.a W.b W.fly
  b : Dir 1 W.b W.a W.fly
section
variable {n : Int} {m : Nat} {W V : WorldS} {s : SideS}
theorem MG.side (h : MG W) (hn : n = 0 ∨ n = 1) : Dir n (W.side n) (W.side (1 - n)) W.fly ∧ Dir (1 - n) (W.side (1 - n)) (W.side n) W.fly := by
  rcases hn with rfl | rfl
  · exact ⟨h.a, h.b⟩
  · exact ⟨h.b, h.a⟩
theorem MG.set (hn : n = 0 ∨ n = 1) (h1 : Dir n s (W.side (1 - n)) W.fly) (h2 : Dir (1 - n) (W.side (1 - n)) s W.fly) : MG (W.setSide n s) := by
  rcases hn with rfl | rfl
  · exact ⟨h1, h2⟩
  · exact ⟨h2, h1⟩
theorem MG.flown (h : MG W) {fly' : List NoteS} (hf : ∀ x ∈ fly', x ∈ W.fly) : MG { W with fly := fly' } := ⟨h.a.flown fun x hx => .inl (hf x hx), h.b.flown fun x hx => .inl (hf x hx)⟩
theorem MG.same (h : MG W) (hn : n = 0 ∨ n = 1) (hL : lif s = lif (W.side n)) (hN : ∀ N', s.node = some N' → ∃ N, (W.side n).node = some N ∧ Under N.tab.cells N'.tab.cells ∧ N'.mir = N.mir) : MG (W.setSide n s) := by
  obtain ⟨d1, d2⟩ := h.side hn
  exact MG.set hn (d1.teller hL fun N' h => by
    obtain ⟨N, a, b, _⟩ := hN N' h
    exact ⟨N, a, b⟩) (d2.hearer fun N' h => by
    obtain ⟨N, a, _, b⟩ := hN N' h
    exact .inr ⟨N, a, b⟩)
theorem MG.tick (h : MG W) (hO : WOk m W) (hG : WG W) (hm : m ≤ 40000000) (n : Int) : MG (W.tick n).2 := by
  unfold WorldS.tick
  split
  · exact h
  rename_i hn
  have hn : n = 0 ∨ n = 1 := by omega
  cases hN : (W.side n).node with
  | none => exact h
  | some N =>
    obtain ⟨g1, g2, g3⟩ := (hO.side hn).node N hN
    have hcell := ((hG.side hn).node N hN).cell
    have hT := tickM g1 hm (hO.side hn).bok g3 hcell
    have hfr := tick_fro N (W.side n).byt
    show MG (W.ticked n N (N.tick (W.side n).byt)).2
    generalize N.tick (W.side n).byt = T at hT hfr ⊢
    obtain ⟨e, l, N', B'⟩ := T
    obtain ⟨t1, t2, t3, t4⟩ := hT
    dsimp only at t1 t2 t3 t4 hfr
    have hL : lif (W.side n) = N.cell.li := by unfold lif; rw [hcell]
    have hL2 : ∀ k, lif ⟨k, B'⟩ = lif (W.side n) := fun k => by unfold lif; dsimp only; rw [t1]
    have hup : MG (W.setSide n ⟨some N', B'⟩) := h.same hn (hL2 _) fun M hM => by
      obtain rfl := Option.some.inj hM
      exact ⟨N, hN, t2, t3⟩
    unfold WorldS.ticked
    dsimp only
    split
    · exact h.same hn (hL2 _) fun M hM => by cases hM
    split
    · exact hup
    · have hnew : ∀ x ∈ l, x.fro = n → x.claim = false → x.life ≤ lif ⟨some N', B'⟩ ∧ (x.life = lif ⟨some N', B'⟩ → ∀ M, (⟨some N', B'⟩ : SideS).node = some M → ∀ c ∈ x.cells, CellU c M.tab.cells) := by
        intro x hx _ hc
        obtain ⟨a, b⟩ := t4 x hx hc
        rw [hL2, hL, a]
        refine ⟨Int.le_refl _, fun _ M hM c hcc => ?_⟩
        obtain rfl := Option.some.inj hM
        obtain ⟨i, b1, b2, b3⟩ := b c hcc
        exact ⟨i, b1, b3, c, b2, Und.refl c⟩
      have hfly : ∀ x ∈ l.take (200 - W.fly.length), x ∈ l := fun x hx => List.mem_of_mem_take hx
      rcases hn with rfl | rfl
      · exact ⟨hup.a.flown fun x hx => by
          rcases List.mem_append.1 hx with hx | hx
          · exact .inl hx
          · exact .inr (hnew x (hfly x hx)), hup.b.flown fun x hx => by
          rcases List.mem_append.1 hx with hx | hx
          · exact .inl hx
          · exact .inr fun h1 => by
              have := hfr x (hfly x hx)
              omega⟩
      · exact ⟨hup.a.flown fun x hx => by
          rcases List.mem_append.1 hx with hx | hx
          · exact .inl hx
          · exact .inr fun h1 => by
              have := hfr x (hfly x hx)
              omega, hup.b.flown fun x hx => by
          rcases List.mem_append.1 hx with hx | hx
          · exact .inl hx
          · exact .inr (hnew x (hfly x hx))⟩
theorem pass_under {m : Nat} {N : NodeS} (hN : NOk m N) (k f : Int) (o : Bool) : Under N.tab.cells (N.pass k f o).tab.cells ∧ (N.pass k f o).mir = N.mir := by
  unfold NodeS.pass
  refine ⟨?_, rfl⟩
  dsimp only
  split
  · exact Under.drop hN.tab.len _
  · exact Under.setS hN.tab.len _ _ _
theorem begin_under {m : Nat} {N : NodeS} (hN : NOk m N) (p : PktS) : Under N.tab.cells (N.begin p).2.tab.cells ∧ (N.begin p).2.mir = N.mir := by
  unfold NodeS.begin
  split
  · exact ⟨Under.refl hN.tab.len, rfl⟩
  split
  · exact ⟨Under.refl hN.tab.len, rfl⟩
  · exact ⟨Under.add hN.tab.len _ _ _ _ _ _ _, rfl⟩
theorem inside_under {m : Nat} {N : NodeS} (hN : NOk m N) (p : PktS) : Under N.tab.cells (N.inside p).2.2.tab.cells ∧ (N.inside p).2.2.mir = N.mir := by
  unfold NodeS.inside
  repeat' split
  all_goals first | exact ⟨Under.refl hN.tab.len, rfl⟩ | exact pass_under hN _ _ _ | exact begin_under hN p
theorem outside_under {m : Nat} {N : NodeS} (hN : NOk m N) (p : PktS) : Under N.tab.cells (N.outside p).2.2.tab.cells ∧ (N.outside p).2.2.mir = N.mir := by
  unfold NodeS.outside
  repeat' split
  all_goals first | exact ⟨Under.refl hN.tab.len, rfl⟩ | exact pass_under hN _ _ _
theorem hear_mir (N : NodeS) (x : NoteS) : (N.hear x).2.tab = N.tab ∧ ((N.hear x).2.mir = N.mir ∨ (N.hear x).2.mir = (N.mir.tell x.life x.cells).2) := by
  unfold NodeS.hear
  repeat' split
  all_goals first | exact ⟨rfl, .inl rfl⟩ | exact ⟨rfl, .inr rfl⟩
theorem MG.got (h : MG W) (hO : WOk m W) {x : NoteS} (hf : x.fro = 0 ∨ x.fro = 1) (hx : x.claim = false → x.life ≤ lif (W.side x.fro) ∧ (x.life = lif (W.side x.fro) → ∀ N, (W.side x.fro).node = some N → ∀ c ∈ x.cells, CellU c N.tab.cells)) : MG (W.got x) := by
  unfold WorldS.got
  split
  · split
    · exact ⟨h.a, h.b⟩
    · exact h
  rename_i hc
  have hc : x.claim = false := Bool.eq_false_iff.2 hc
  split
  · exact h
  rename_i hn
  have hn : 1 - x.fro = 0 ∨ 1 - x.fro = 1 := by omega
  split
  · exact h
  · rename_i M hM
    obtain ⟨d1, d2⟩ := h.side hn
    rw [show 1 - (1 - x.fro) = x.fro by omega] at d1 d2
    obtain ⟨h1, h2⟩ := hear_mir M x
    have hlen := ((hO.side hn).node M hM).1.mir
    have htl := ((hO.side hn).node M hM).1.tab.len
    refine MG.set hn ?_ ?_
    · rw [show 1 - (1 - x.fro) = x.fro by omega]
      refine d1.teller rfl fun M' hM' => ?_
      obtain rfl := Option.some.inj hM'
      refine ⟨M, hM, ?_⟩
      rw [h1]
      exact Under.refl htl
    · rw [show 1 - (1 - x.fro) = x.fro by omega]
      exact d2.told hM hlen (hx hc) h2
theorem MG.off (h : MG W) (k : Int) : MG (W.off k) := h.flown fun _ hx => List.mem_of_mem_eraseIdx hx
theorem MG.deliver (h : MG W) (hO : WOk m W) (k : Int) : MG (W.deliver k).2 := by
  unfold WorldS.deliver
  split
  · exact h
  split
  · exact h
  · rename_i x hx
    have hm := List.mem_of_getElem? hx
    have hf := (hO.notes x hm).1
    exact MG.got (h.off k) (hO.off k) hf fun hc => (h.side hf).1.fly x hm rfl hc
theorem MG.down (h : MG W) (n : Int) : MG (W.down n).2 := by
  unfold WorldS.down
  split
  · exact h
  · rename_i he
    obtain ⟨hn, _⟩ := upErr_in (Classical.byContradiction he)
    exact h.same hn rfl fun M hM => by cases hM
theorem MG.cut (h : MG W) (hO : WOk m W) (n k : Int) : MG (W.cut n k).2 := by
  unfold WorldS.cut
  split
  · exact h
  · rename_i he
    obtain ⟨hn, _⟩ := upErr_in (Classical.byContradiction he)
    have hd : (cutB (W.side n).byt k).data = (W.side n).byt.data := by unfold cutB; split <;> rfl
    exact h.same hn (by unfold lif; dsimp only; rw [hd]) fun M hM => ⟨M, hM, Under.refl ((hO.side hn).node M hM).1.tab.len, rfl⟩
theorem MG.up (h : MG W) (hO : WOk m W) (n : Int) : MG (W.up n).2 := by
  unfold WorldS.up
  split
  · exact h
  rename_i hn
  have hn : n = 0 ∨ n = 1 := by omega
  split
  · exact h
  · rename_i hN
    obtain ⟨d1, d2⟩ := h.side hn
    have hd : openS (onB (W.side n).byt).data = openS (W.side n).byt.data := rfl
    obtain ⟨_, _, p2⟩ := put_cut (C := openS (onB (W.side n).byt).data) (e := ((openS (onB (W.side n).byt).data).ep : Int)) (l := ((openS (onB (W.side n).byt).data).li : Int) + 1) (onB_ok (hO.side hn).bok) rfl rfl
    have hn1 : (newN n (onB (W.side n).byt) W.rules).1 = ((openS (onB (W.side n).byt).data).put (onB (W.side n).byt) ((openS (onB (W.side n).byt).data).ep : Int) (((openS (onB (W.side n).byt).data).li : Int) + 1)).1 := rfl
    have hn2 : (newN n (onB (W.side n).byt) W.rules).2.2 = ((openS (onB (W.side n).byt).data).put (onB (W.side n).byt) ((openS (onB (W.side n).byt).data).ep : Int) (((openS (onB (W.side n).byt).data).li : Int) + 1)).2.1 := rfl
    have hn3 : (newN n (onB (W.side n).byt) W.rules).2.1.tab.cells = emptyCells := rfl
    have hn4 : (newN n (onB (W.side n).byt) W.rules).2.1.mir = ⟨0, emptyCells⟩ := rfl
    generalize newN n (onB (W.side n).byt) W.rules = R at hn1 hn2 hn3 hn4 ⊢
    obtain ⟨e, M, B'⟩ := R
    dsimp only at hn1 hn2 hn3 hn4 ⊢
    rw [hd] at p2 hn1 hn2
    rw [← hn1, ← hn2] at p2
    split
    · rename_i he
      refine h.same hn ?_ fun M hM => by cases hM
      unfold lif
      dsimp only
      rcases p2 with ⟨p3, _⟩ | ⟨_, p4, _⟩ | ⟨_, p4⟩
      · exact absurd p3 he
      · rw [p4]
      · rw [hn2, p4]
        rfl
    · rename_i he
      have he : e = 0 := Classical.byContradiction he
      have hL : lif ⟨some M, B'⟩ = lif (W.side n) + 1 := by
        unfold lif
        dsimp only
        rcases p2 with ⟨_, p4, _, _, _, _, p9⟩ | ⟨p3, _, _⟩ | ⟨p3, _⟩
        · rw [p4]
          exact p9
        · omega
        · omega
      exact MG.set hn (d1.newer (by omega) fun N' h => by obtain rfl := Option.some.inj h; exact hn3) (d2.hearer fun N' h => by obtain rfl := Option.some.inj h; exact .inl hn4)
theorem MG.ruled {n : Int} (h : MG W) (hO : WOk m W) (l : List RuleS) : MG (W.rule l) := by
  have t : ∀ {n : Int} {s t : SideS} {fl : List NoteS}, (∀ N, s.node = some N → N.tab.cells.length = 32) → Dir n s t fl → Dir n (s.ruled l) t fl := fun {n s t fl} hl d => d.teller rfl fun N hN => by
    obtain ⟨M, hM, rfl⟩ := Option.map_eq_some_iff.1 hN
    exact ⟨M, hM, Under.refl (hl M hM)⟩
  have r : ∀ {n : Int} {s t : SideS} {fl : List NoteS}, Dir n t s fl → Dir n t (s.ruled l) fl := fun {n s t fl} d => d.hearer fun N hN => by
    obtain ⟨M, hM, rfl⟩ := Option.map_eq_some_iff.1 hN
    exact .inr ⟨M, hM, rfl⟩
  exact ⟨r (t (fun N hN => (hO.a.node N hN).1.tab.len) h.a), r (t (fun N hN => (hO.b.node N hN).1.tab.len) h.b)⟩
theorem Moved.mg (k : Moved W V) (h : MG W) (hO : WOk m W) (hG : WG W) (hm : m ≤ 40000000) : MG V := by
  cases k with
  | tick n => exact h.tick hO hG hm n
  | down n => exact h.down n
  | up n => exact h.up hO n
  | cut n k hk => exact h.cut hO n k
  | inside p =>
    unfold WorldS.inside
    split
    · exact h
    rename_i he
    obtain ⟨ht, N, hN⟩ := hO.hand (Classical.byContradiction he)
    rw [hN]
    obtain ⟨u1, u2⟩ := inside_under ((hO.side ht).node N hN).1 p
    exact h.same ht rfl fun M hM => by obtain rfl := Option.some.inj hM; exact ⟨N, hN, u1, u2⟩
  | outside p =>
    unfold WorldS.outside
    split
    · exact h
    rename_i he
    obtain ⟨ht, N, hN⟩ := hO.hand (Classical.byContradiction he)
    rw [hN]
    obtain ⟨u1, u2⟩ := outside_under ((hO.side ht).node N hN).1 p
    exact h.same ht rfl fun M hM => by obtain rfl := Option.some.inj hM; exact ⟨N, hN, u1, u2⟩
  | drop k =>
    unfold WorldS.drop
    split
    · exact h
    · exact h.off k
  | twice k =>
    unfold WorldS.twice
    split
    · exact h
    split
    · exact h
    split
    · exact h
    · rename_i x hx
      refine h.flown fun y hy => ?_
      rcases List.mem_append.1 hy with hy | hy
      · exact List.mem_of_mem_take hy
      rcases List.mem_cons.1 hy with rfl | hy
      · exact List.mem_of_getElem? hx
      · exact List.mem_of_mem_drop hy
  | deliver k => exact h.deliver hO k
  | rule l hl => exact h.ruled (n := 0) hO l
  | same => exact h
theorem MG.born {l : List RuleS} (hl : GoodR l) : MG (.born l) := by
  obtain ⟨h0, h1, _⟩ := WOk.born hl
  have hb : BOk by0 := ⟨by simp [by0], by decide, by decide⟩
  have key : ∀ n : Int, (newN n by0 l).1 = 0 → 1 ≤ lif ⟨some (newN n by0 l).2.1, (newN n by0 l).2.2⟩ := fun n h => by
    obtain ⟨_, _, p2⟩ := put_cut (C := openS by0.data) (e := ((openS by0.data).ep : Int)) (l := ((openS by0.data).li : Int) + 1) hb rfl rfl
    have hn1 : (newN n by0 l).1 = ((openS by0.data).put by0 ((openS by0.data).ep : Int) (((openS by0.data).li : Int) + 1)).1 := rfl
    have hn2 : (newN n by0 l).2.2 = ((openS by0.data).put by0 ((openS by0.data).ep : Int) (((openS by0.data).li : Int) + 1)).2.1 := rfl
    rw [← hn1, ← hn2] at p2
    unfold lif
    dsimp only
    rcases p2 with ⟨_, p4, _, _, _, _, p9⟩ | ⟨p3, _, _⟩ | ⟨p3, _⟩
    · rw [p4]
      omega
    · omega
    · omega
  have mk : ∀ (n k : Int), (newN n by0 l).1 = 0 → Dir n ⟨some (newN n by0 l).2.1, (newN n by0 l).2.2⟩ ⟨some (newN k by0 l).2.1, (newN k by0 l).2.2⟩ [] := fun n k h => by
    have hk := key n h
    refine ⟨fun N hN => ?_, fun M hM => ?_, fun x hx => by cases hx⟩
    · obtain rfl := Option.some.inj hN
      exact ⟨Under.refl emptyCells_len, hk⟩
    · obtain rfl := Option.some.inj hM
      refine ⟨?_, fun he => ?_⟩
      · show (0 : Int) ≤ _
        omega
      · have he : (0 : Int) = _ := he
        omega
  exact ⟨mk 0 1 h0, mk 1 0 h1⟩
end
end Go.Proofs.YtoaghhcjlfiflaaGreatDoor

namespace Go.Proofs.YtoaghhcjlfiflaaGreatDoor
open Go Ev
section
variable {n : Int} {W : WorldS} {N M N' M' : NodeS} {B C : BytS} {t e : Int} {m i : Nat}
theorem land_dl : ∀ (k : Nat) {W : WorldS} {j : Nat}, W.fly.length = k → k ≤ j → W.land k = W.dl j
  | 0, W, j, h, _ => by
    rw [dl_nil (List.length_eq_zero_iff.1 h)]
    rfl
  | k + 1, W, j, h, hj => by
    obtain ⟨j, rfl⟩ : ∃ d, j = d + 1 := ⟨j - 1, by omega⟩
    rw [dl_next]
    show (if W.fly.length = 0 then W else (W.deliver 0).2.land k) = _
    rw [if_neg (by omega)]
    exact land_dl k (deliver0 h).2 (by omega)
def base (N M : NodeS) : List CellS := if (N.cell.li : Int) > M.mir.life then emptyCells else M.mir.cells
def Kn (i : Nat) (N M : NodeS) : Prop := ∃ K : Nat → Prop, Gots (base N M) N.tab.cells K ∧ Under (base N M) N.tab.cells ∧ Cov i N.tel.cursor K ∧ lag N.tab.cells N.tel.told ≤ 32 - 8 * i
def beats : Int → Nat → Nat
  | _, 0 => 0
  | t, k + 1 => (if (t + 1).tmod 3 = 0 then 1 else 0) + beats (t + 1) k
theorem beats3 {t : Int} (h : 0 ≤ t) (k : Nat) : beats t (k + 3) = 1 + beats (t + 3) k := by
  have hm : ∀ a : Int, 0 ≤ a → a.tmod 3 = a % 3 := fun a ha => Int.tmod_eq_emod_of_nonneg ha
  show (if (t + 1).tmod 3 = 0 then 1 else 0) + ((if (t + 1 + 1).tmod 3 = 0 then 1 else 0) + ((if (t + 1 + 1 + 1).tmod 3 = 0 then 1 else 0) + beats (t + 1 + 1 + 1) k)) = _
  rw [show t + 1 + 1 + 1 = t + 3 by omega, hm _ (by omega), hm _ (by omega), hm _ (by omega)]
  have h3 : t % 3 = 0 ∨ t % 3 = 1 ∨ t % 3 = 2 := by omega
  rcases h3 with h3 | h3 | h3
  · rw [if_neg (by omega), if_neg (by omega), if_pos (by omega)]
    omega
  · rw [if_neg (by omega), if_pos (by omega), if_neg (by omega)]
    omega
  · rw [if_pos (by omega), if_neg (by omega), if_neg (by omega)]
    omega
theorem beats24 {t : Int} (h : 0 ≤ t) : beats t 24 = 8 := by
  rw [beats3 h 21, beats3 (by omega) 18, beats3 (by omega) 15, beats3 (by omega) 12, beats3 (by omega) 9, beats3 (by omega) 6, beats3 (by omega) 3, beats3 (by omega) 0]
  rfl
theorem role_is {r : RoleS} (h : r.active = true) : r = ⟨r.node, r.epoch, r.silence, true⟩ := by
  rw [← h]
theorem round_ok (hn : n = 0 ∨ n = 1) (P : Pr n W N M B C t e) (hN : NOk m N) (hM : NOk m M) (hm : m ≤ 40000000) (ha : N.role.active = true) (h1 : N.id = n) (h2 : M.id = 1 - n) (ho : B.off = false) (h0 : (W.tick n).1 = 0) :
    ∃ (N' M' : NodeS) (t' e' : Int), Pr n ((W.tick n).2.land (W.tick n).2.fly.length) N' M' B C t' e' ∧ NOk (m + 34) N' ∧ NOk (m + 34) M' ∧ N'.role = N.role ∧ N'.id = n ∧ M'.id = 1 - n ∧ N'.now = N.now + 1 ∧ N'.cell = N.cell ∧ Under N.tab.cells N'.tab.cells ∧
      (((N.now + 1).tmod 3 ≠ 0 ∧ N'.tel = N.tel ∧ M' = M) ∨ ((N.now + 1).tmod 3 = 0 ∧ N'.tel = N.tel.next N'.tab.cells ∧ M'.mir = (M.mir.tell N.cell.li (outC N'.tab.cells (N.tel.picks N'.tab.cells))).2)) := by
  have hr := role_is ha
  have hu : Under N.tab.cells (N.tab.expire (N.now + 1)).cells := Under.exp hN.tab.len _
  have htk : W.tick n = W.ticked n N (N.tick B) := by
    unfold WorldS.tick
    rw [if_neg (by omega), P.x]
  have hnow : N.now < 1099511627776 := by
    refine Int.not_le.1 fun hge => ?_
    have hT : N.tick B = (2, [], N, B) := by
      unfold NodeS.tick
      rw [if_pos hge]
    rw [htk, hT] at h0
    unfold WorldS.ticked at h0
    dsimp only at h0
    rw [if_neg (by rw [ho]; decide), if_pos (by decide)] at h0
    exact absurd h0 (by simp)
  have hk := hN.tick (by omega) B
  by_cases h3 : (N.now + 1).tmod 3 = 0
  · have hT := tick_beat (B := B) hr hnow h3
    obtain ⟨_, a2, _⟩ := ticked_pr hn P hT (by simp) ho
    obtain ⟨_, q⟩ := half2 hn P hT ⟨rfl, h1⟩ ⟨rfl, h1⟩ ho
    rw [← land_dl (W := (W.tick n).2) (W.tick n).2.fly.length rfl (by rw [a2]; simp)] at q
    rw [hT] at hk
    refine ⟨_, _, _, _, q, hk, (hM.hear _).mono (by omega), rfl, h1, (hear_id _ _).trans h2, rfl, rfl, hu, .inr ⟨h3, rfl, ?_⟩⟩
    have he := hN.role
    unfold NodeS.hear
    dsimp only
    rw [if_neg (by have := he.e0; have := he.e1; rw [h1, h2]; omega), if_neg (by simp)]
    split <;> rfl
  · have hT := tick_rest (B := B) hr hnow h3
    obtain ⟨_, a2, _⟩ := ticked_pr hn P hT (by simp) ho
    obtain ⟨_, q⟩ := half0 hn P hT ho
    rw [← land_dl (W := (W.tick n).2) (W.tick n).2.fly.length rfl (by rw [a2]; simp)] at q
    rw [hT] at hk
    exact ⟨_, _, _, _, q, hk, hM.mono (by omega), rfl, h1, h2, rfl, rfl, hu, .inl ⟨h3, rfl, rfl⟩⟩
theorem Kn.beat (hN : NOk m N) (hl : 1 ≤ N.cell.li) (hle : M.mir.life ≤ N.cell.li) (hT : N'.tab.cells = N.tab.cells) (hc : N'.cell = N.cell) (ht : N'.tel = N.tel.next N'.tab.cells) (hM : M'.mir = (M.mir.tell N.cell.li (outC N'.tab.cells (N.tel.picks N'.tab.cells))).2) (h : Kn i N M) : Kn (i + 1) N' M' ∧ M'.mir.life = N'.cell.li := by
  obtain ⟨K, g1, g2, g3, g4⟩ := h
  rw [hT] at hM ht
  have hp := picks_law N.tab.cells hN.cur
  have hcell : ∀ c ∈ outC N.tab.cells (N.tel.picks N.tab.cells), ∃ k : Nat, k < 32 ∧ N.tab.cells[k]? = some c ∧ c.slot = k := fun c hc => by
    unfold outC at hc
    obtain ⟨k, hk, rfl⟩ := List.mem_map.1 hc
    have hk2 := hp.lt k hk
    have hg := List.getElem?_eq_getElem (l := N.tab.cells) (by rw [hN.tab.len]; exact hk2 : k < N.tab.cells.length)
    rw [cellAt_of hg]
    exact ⟨k, hk2, hg, hN.tab.slot k _ hg⟩
  have hlen : (outC N.tab.cells (N.tel.picks N.tab.cells)).length = 8 := by unfold outC; rw [List.length_map, hp.len]
  have hbad : (outC N.tab.cells (N.tel.picks N.tab.cells)).any badSlot = false := by
    rw [List.any_eq_false]
    intro c hc
    obtain ⟨k, hk, _, hs⟩ := hcell c hc
    unfold badSlot
    rw [hs, decide_eq_false (by omega), decide_eq_false (by omega)]
    decide
  have hmir : M'.mir = ⟨(N.cell.li : Int), (outC N.tab.cells (N.tel.picks N.tab.cells)).foldl put1C (base N M)⟩ := by
    rw [hM]
    unfold MirS.tell base
    rw [if_neg (by rw [hbad, hlen]; simp; omega), if_neg (by omega)]
    dsimp only
    congr 1
    split <;> omega
  have hb : base N' M' = (outC N.tab.cells (N.tel.picks N.tab.cells)).foldl put1C (base N M) := by
    unfold base
    rw [hmir, hc, if_neg (by dsimp only; omega)]
    rfl
  refine ⟨⟨fun k => K k ∨ k ∈ N.tel.picks N.tab.cells, ?_, ?_, ?_, ?_⟩, by rw [hmir, hc]⟩
  · rw [hb, hT]
    exact Gots.puts hN.tab.slot hN.tab.len g1 g2 hp.lt
  · rw [hb, hT]
    refine Under.fold _ g2 fun c hc => ?_
    obtain ⟨k, hk, hg, hs⟩ := hcell c hc
    exact ⟨k, hk, hs, c, hg, Und.refl c⟩
  · rw [ht]
    exact Cov.step hN.cur g4 g3
  · rw [ht, hT, lag_next N.tab.cells hN.cur hN.told]
    omega
theorem settle_know (hn : n = 0 ∨ n = 1) : ∀ (k : Nat) {W : WorldS} {N M : NodeS} {t e : Int} {m : Nat}, Pr n W N M B C t e → NOk m N → NOk m M → m + 34 * k ≤ 40000000 → N.role.active = true → N.id = n → M.id = 1 - n → B.off = false → 1 ≤ N.cell.li → M.mir.life ≤ N.cell.li → (W.settle n k).1 = 0 →
    ∃ (N' M' : NodeS) (t' e' : Int), Pr n (W.settle n k).2 N' M' B C t' e' ∧ NOk (m + 34 * k) N' ∧ NOk (m + 34 * k) M' ∧ N'.role = N.role ∧ Under N.tab.cells N'.tab.cells ∧ (N'.tab.cells = N.tab.cells → ∀ i, Kn i N M → (1 ≤ i → M.mir.life = N.cell.li) → Kn (i + beats N.now k) N' M' ∧ (1 ≤ i + beats N.now k → M'.mir.life = N'.cell.li))
  | 0, W, N, M, t, e, m, P, hN, hM, _, _, _, _, _, _, _, _ => ⟨N, M, t, e, P, hN, hM, rfl, Under.refl hN.tab.len, fun _ i hK h1 => ⟨hK, h1⟩⟩
  | k + 1, W, N, M, t, e, m, P, hN, hM, hm, ha, h1, h2, ho, hl, hle, h0 => by
    have hst : W.settle n (k + 1) = if (W.tick n).1 ≠ 0 then W.tick n else ((W.tick n).2.land (W.tick n).2.fly.length).settle n k := rfl
    have htk : (W.tick n).1 = 0 := by
      refine Classical.byContradiction fun hne => ?_
      rw [hst, if_pos hne] at h0
      exact hne h0
    rw [hst, if_neg (fun h => h htk)] at h0 ⊢
    obtain ⟨N1, M1, t1, e1, P1, hN1, hM1, r1, r2, r3, r4, r5, r6, r7⟩ := round_ok hn P hN hM (by omega) ha h1 h2 ho htk
    have hle1 : M1.mir.life ≤ N1.cell.li := by
      rw [r5]
      rcases r7 with ⟨_, _, rfl⟩ | ⟨_, _, hmir⟩
      · exact hle
      · rw [hmir]
        unfold MirS.tell
        repeat' split
        all_goals first | exact hle | (dsimp only; omega)
    obtain ⟨N', M', t', e', P', hN', hM', s1, s2, s3⟩ := settle_know hn k P1 hN1 hM1 (by omega) (by rw [r1]; exact ha) r2 r3 ho (by rw [r5]; exact hl) hle1 h0
    refine ⟨N', M', t', e', P', hN'.mono (by omega), hM'.mono (by omega), s1.trans r1, r6.trans s2, fun hT i hK hi => ?_⟩
    have hT1 : N1.tab.cells = N.tab.cells := Under.antisymm (by rw [← hT]; exact s2) r6 hN.tab.len
    have hbt : beats N.now (k + 1) = (if (N.now + 1).tmod 3 = 0 then 1 else 0) + beats N1.now k := by rw [r4]; rfl
    rcases r7 with ⟨h3, ht, rfl⟩ | ⟨h3, ht, hmir⟩
    · have hK1 : Kn i N1 M1 := by
        obtain ⟨K, g1, g2, g3, g4⟩ := hK
        have hb : base N1 M1 = base N M1 := by unfold base; rw [r5]
        exact ⟨K, by rw [hb, hT1]; exact g1, by rw [hb, hT1]; exact g2, by rw [ht]; exact g3, by rw [ht, hT1]; exact g4⟩
      have := s3 (hT.trans hT1.symm) i hK1 (by rw [r5]; exact hi)
      rw [hbt, if_neg h3, Nat.zero_add]
      exact this
    · obtain ⟨hK1, hlf⟩ := Kn.beat hN hl hle hT1 r5 ht hmir hK
      have := s3 (hT.trans hT1.symm) (i + 1) hK1 fun _ => hlf
      rw [hbt, if_pos h3, ← Nat.add_assoc]
      exact this
theorem settle_mirror (hn : n = 0 ∨ n = 1) (hO : WOk m W) (hG : WG W) (hM : MG W) (hm : m ≤ 30000000) (hf : W.fly = []) (h1 : (W.side n).node = some N) (h2 : (W.side (1 - n)).node = some M) (ha : N.role.active = true) (h0 : (W.settle n 24).1 = 0) :
    ∃ (N' M' : NodeS), ((W.settle n 24).2.side n).node = some N' ∧ ((W.settle n 24).2.side (1 - n)).node = some M' ∧ N'.role.active = true ∧ N'.tab.cells.length = 32 ∧ M'.mir.cells.length = 32 ∧ (N'.tab.cells = N.tab.cells → M'.mir.cells = N'.tab.cells) := by
  have hn2 : 1 - n = 0 ∨ 1 - n = 1 := by omega
  obtain ⟨g1, g2, g3⟩ := (hO.side hn).node N h1
  obtain ⟨k1, k2, k3⟩ := (hO.side hn2).node M h2
  have hcell := ((hG.side hn).node N h1).cell
  obtain ⟨d1, _⟩ := hM.side hn
  have hL : lif (W.side n) = N.cell.li := by unfold lif; rw [hcell]
  obtain ⟨u1, u2⟩ := d1.tab N h1
  obtain ⟨v1, v2⟩ := d1.mir M h2
  rw [hL] at u2 v1 v2
  have hP : Pr n W N M (W.side n).byt (W.side (1 - n)).byt W.to W.epoch := ⟨hf, by rw [← h1], by rw [← h2], rfl, rfl⟩
  obtain ⟨N', M', t', e', P', hN', hM', s1, s2, s3⟩ := settle_know hn 24 hP g1 k1 (by omega) ha g2 k2 g3 (by omega) v1 h0
  refine ⟨N', M', by rw [P'.x], by rw [P'.y], by rw [s1]; exact ha, hN'.tab.len, hM'.mir, fun hT => ?_⟩
  have hK0 : Kn 0 N M := by
    have hb : Under (base N M) N.tab.cells := by
      unfold base
      split
      · exact u1
      · exact v2 (by omega) N h1
    exact ⟨fun _ => False, fun k _ h => h.elim, hb, fun h => absurd h (by decide), lag_le _ _⟩
  obtain ⟨hK, hlf⟩ := s3 hT 0 hK0 (fun h => absurd h (by decide))
  rw [Nat.zero_add, beats24 g1.n0] at hK hlf
  obtain ⟨K, q1, q2, q3, q4⟩ := hK
  have hb : base N' M' = M'.mir.cells := by
    unfold base
    rw [hlf (by decide), if_neg (by omega)]
  rw [hb] at q1 q2
  refine Gots.full q1 q2.len hN'.tab.len fun k hk => ?_
  obtain ⟨c4, c1, _, c3⟩ := q3 (by decide)
  by_cases hle : c4 ≤ k
  · have := c3 (k - c4) (by omega)
    rwa [show (c4 + (k - c4)) % 32 = k by omega] at this
  · have := c3 (k + 32 - c4) (by omega)
    rwa [show (c4 + (k + 32 - c4)) % 32 = k by omega] at this
end
end Go.Proofs.YtoaghhcjlfiflaaGreatDoor

namespace Go.Proofs.YtoaghhcjlfiflaaGreatDoor
open Go Ev
section
variable {w w' : World} {X : WorldA} {W : WorldS} {E : Nat → Addr} {q m : Nat}
theorem wdeliverK_ok (k : Int) (h : Stands E q m w X W) : CallC Tryz.prog 18 #[.pointer (some ⟨X.w, 0, none⟩), .int .i64 k] w fun v w' => v = errV E (W.deliver k).1 ∧ ∃ X', (X'.w, X'.a, X'.b) = (X.w, X.a, X.b) ∧ Turns w w' (worldH X W) (worldH X' (W.deliver k).2) := by
  refine fn_intro tabOk Tryz.func18 (by kernel_rfl) rfl Tryz.ntmps18 (Nat.le_of_ble_eq_true rfl) ?_
  (conv => whnf)
  refine (wat_ok k h).mono ?_
  rintro v w1 ⟨rfl, hx⟩
  by_cases hu : W.at_ k = 0
  case neg =>
    obtain ⟨j, hj⟩ : ∃ j, W.at_ k = j + 1 := ⟨W.at_ k - 1, by omega⟩
    rw [show W.deliver k = (W.at_ k, W) from if_pos hu, hj]
    repeat' ((conv => whnf); first | refine RetC.mk ?_ | refine NzC.mk (by decide) ?_ | refine RngC.mk (by omega) (by omega) ?_ | refine IdxC.mk (by omega) (by omega) ?_ | refine brD (fun _ => ?_) (fun _ => ?_) | refine brND (fun _ => ?_) (fun _ => ?_) | refine brN (fun _ => ?_) (fun _ => ?_) | refine brI (fun _ => ?_) (fun _ => ?_))
    exact ⟨rfl, X, rfl, Turns.of_no h.has hx⟩
  rw [hu]
  obtain ⟨i, rfl, hi⟩ := at_in hu
  have hflen := h.ok.fly
  have hc : (cellsE X.vs W.fly).holds w := h.has.get 5 rfl
  have hl : X.vs.length = W.fly.length := hc.1
  obtain ⟨x, hxi⟩ : ∃ x, X.vs[i]? = some x := ⟨_, List.getElem?_eq_getElem (by omega)⟩
  obtain ⟨y, hyi⟩ : ∃ y, W.fly[i]? = some y := ⟨_, List.getElem?_eq_getElem (by omega)⟩
  obtain ⟨hxy, hsl⟩ := cellsE_get hc hxi hyi
  obtain ⟨hyf, hyl⟩ := h.ok.notes y (List.mem_of_getElem? hyi)
  have hxn : x.n = y.cells.length := hsl.len.symm
  obtain ⟨g, o, hfa⟩ : ∃ g o, X.fa = some ⟨g, o, none⟩ := by
    obtain ⟨b0, o0, h1, _⟩ := (ownL_slc (G := fun _ => True) codNote (h.has.get 4 rfl) (fun _ _ => trivial)).cells i x hxi
    exact ⟨b0, o0, h1⟩
  have hw : W.deliver i = (0, (W.off i).got y) := by
    unfold WorldS.deliver
    rw [if_neg (fun h => h hu)]
    show (match W.fly[(i : Int).toNat]? with | none => _ | some x => _) = _
    rw [Int.toNat_natCast, hyi]
  rw [hw]
  clear hc hsl hw hu
  cases hcl : y.claim
  case true =>
    have hxc : x.claim = true := hxy.claim.trans hcl
    have hS := h.fix.1.start.no hx
    clear hx
    (conv => whnf)
    refine hS.ld 0 rfl (v := .slice (some ⟨g, o, none⟩) W.fly.length X.fc) (by rw [← hfa]; rfl) ?_
    (conv => whnf)
    refine IdxC.mk (by omega) (by omega) ?_
    (conv => whnf)
    refine hS.ldRow codNote 4 (by rw [← hfa]; rfl) hxi rfl ?_
    (conv => whnf)
    refine hS.new (fun b6 w2 hb6 hS => ?_)
    (conv => whnf)
    refine hS.st 7 rfl (Nat.le_of_ble_eq_true rfl) rfl (fun w3 hS => ?_)
    (conv => whnf)
    refine hS.ld 0 rfl (v := .slice (some ⟨g, o, none⟩) W.fly.length X.fc) (by rw [← hfa]; rfl) ?_
    (conv => whnf)
    refine RngC.mk (by omega) (by omega) ?_
    (conv => whnf)
    refine (ndel2_ok hfa hl hi hflen (hS.get 4 rfl)).mono ?_
    rintro v w4 ⟨rfl, hx, ho⟩
    replace hS := hS.upd 4 rfl hx (fun b hb => foot_own hb) ownL_local ho (fun b hb => .inl (ownB_slice hb))
    clear hx ho
    (conv => whnf)
    refine hS.st 0 rfl (by exact Nat.le_of_ble_eq_true rfl) rfl (fun w5 hS => ?_)
    (conv => whnf)
    rw [← hfa] at hS
    replace hS : St w (inF (fixH X W X.a X.b W.a W.b)) w5 (gotH X W i X.a X.b W.a W.b ++ [blk b6 107 (encNV x)]) := hS
    refine hS.ld 7 rfl (v := .bool true) (by rw [← hxc]; rfl) ?_
    have hxe := hxy.epoch
    have hxf := hxy.fro
    have e1 : (W.off (i : Int)).epoch = W.epoch := rfl
    have e2 : (W.off (i : Int)).to = W.to := rfl
    have hg1 : y.epoch > W.epoch ∨ W.to < 0 → (W.off i).got y = { W.off i with to := x.fro, epoch := x.epoch } := fun h => by
      unfold WorldS.got
      rw [if_pos hcl, hxe, hxf]
      exact if_pos h
    have hg2 : ¬ (y.epoch > W.epoch ∨ W.to < 0) → (W.off i).got y = W.off i := fun h => by
      unfold WorldS.got
      rw [if_pos hcl]
      exact if_neg h
    have hT : ∀ {w' : World} {W' : WorldS}, W'.a = W.a → W'.b = W.b → Turns w w' (fixH X W X.a X.b W.a W.b) (fixH (X.off i) W' X.a X.b W.a W.b) → Turns w w' (worldH X W) (worldH (X.off i) W') := fun ha hb k => Turns.fixed h.has k rfl rfl ha hb
    have hne := hS.ne 7 0 rfl rfl (by decide)
    (conv => whnf)
    (refine drawS tabOk mixed [] No [0, 1, 2, 3, 4, 5, 6, 7, 8, 9, 10, 11, 12, 13] (by kernel_rfl) ?_; rintro w1 rfl; replace hS := hS.drew)
    repeat' ((conv => whnf); first | refine RetC.mk ?_ | refine NzC.mk (by decide) ?_ | refine RngC.mk (by omega) (by omega) ?_ | refine IdxC.mk (by omega) (by omega) ?_ | refine hS.ldF 7 rfl rfl id ?_ | refine hS.ldF 0 rfl rfl id ?_ | refine brD (fun _ => ?_) (fun _ => ?_) | refine brND (fun _ => ?_) (fun _ => ?_) | refine brN (fun _ => ?_) (fun _ => ?_) | refine brI (fun _ => ?_) (fun _ => ?_))
    all_goals first
      | (rw [hg2 (by omega)]; exact ⟨rfl, X.off i, rfl, hT rfl rfl (St.turns (St.gotOff (B := []) (hS.keep 7)))⟩)
      | (rw [hg1 (by omega)]
         (refine drawS tabOk mixed [] (fun b => b = X.w) [0, 1, 2, 3, 4, 5, 6, 7, 8, 9, 10, 11] (by kernel_rfl) ?_; rintro w1 rfl; replace hS := hS.drew)
         have hK := hS.ref (fun b => b = X.w)
         repeat' ((conv => whnf); first | refine RetC.mk ?_ | refine NzC.mk (by decide) ?_ | refine RngC.mk (by omega) (by omega) ?_ | refine IdxC.mk (by omega) (by omega) ?_ | refine hS.ldF 7 rfl rfl hne ?_ | (refine hS.stK hK 0 rfl (by exact Nat.le_of_ble_eq_true rfl) rfl rfl (fun w' hK hS => KeepC.mk hK ?_)) | refine brD (fun _ => ?_) (fun _ => ?_) | refine brND (fun _ => ?_) (fun _ => ?_) | refine brN (fun _ => ?_) (fun _ => ?_) | refine brI (fun _ => ?_) (fun _ => ?_))
         exact ⟨rfl, X.off i, rfl, hT rfl rfl (St.turns (St.gotOff (W := { W with to := x.fro, epoch := x.epoch }) (B := []) (hS.keep 7)))⟩)
  case false =>
    have hxc : x.claim = false := hxy.claim.trans hcl
    have hn : 1 - y.fro = 0 ∨ 1 - y.fro = 1 := by omega
    have hxf := hxy.fro
    cases hN : (W.side (1 - y.fro)).node with
    | none =>
      have hS := h.fix.1.start.no hx
      clear hx
      (conv => whnf)
      refine hS.ld 0 rfl (v := .slice (some ⟨g, o, none⟩) W.fly.length X.fc) (by rw [← hfa]; rfl) ?_
      (conv => whnf)
      refine IdxC.mk (by omega) (by omega) ?_
      (conv => whnf)
      refine hS.ldRow codNote 4 (by rw [← hfa]; rfl) hxi rfl ?_
      (conv => whnf)
      refine hS.new (fun b6 w2 hb6 hS => ?_)
      (conv => whnf)
      refine hS.st 7 rfl (Nat.le_of_ble_eq_true rfl) rfl (fun w3 hS => ?_)
      (conv => whnf)
      refine hS.ld 0 rfl (v := .slice (some ⟨g, o, none⟩) W.fly.length X.fc) (by rw [← hfa]; rfl) ?_
      (conv => whnf)
      refine RngC.mk (by omega) (by omega) ?_
      (conv => whnf)
      refine (ndel2_ok hfa hl hi hflen (hS.get 4 rfl)).mono ?_
      rintro v w4 ⟨rfl, hx, ho⟩
      replace hS := hS.upd 4 rfl hx (fun b hb => foot_own hb) ownL_local ho (fun b hb => .inl (ownB_slice hb))
      clear hx ho
      (conv => whnf)
      refine hS.st 0 rfl (by exact Nat.le_of_ble_eq_true rfl) rfl (fun w5 hS => ?_)
      (conv => whnf)
      rw [← hfa] at hS
      replace hS : St w (inF (fixH X W X.a X.b W.a W.b)) w5 (gotH X W i X.a X.b W.a W.b ++ [blk b6 107 (encNV x)]) := hS
      refine hS.ld 7 rfl (v := .bool false) (by rw [← hxc]; rfl) ?_
      have hg : (W.off i).got y = W.off i := by
        unfold WorldS.got
        rw [if_neg (by rw [hcl]; decide), if_neg (by omega)]
        show (match (W.side (1 - y.fro)).node with | none => _ | some N => _) = _
        rw [hN]
      have hk : Turns w w5 (worldH X W) (worldH (X.off i) (W.off i)) := Turns.fixed h.has (St.turns (St.gotOff (B := []) (hS.keep 7))) rfl rfl rfl rfl
      have hst : Stands E q m w5 (X.off i) (W.off i) := h.turns hk (h.ok.off i)
      rw [hg]
      (conv => whnf)
      refine hS.ld 7 rfl rfl ?_
      (conv => whnf)
      refine RngC.mk (by omega) (by omega) ?_
      (conv => whnf)
      rw [hxf]
      refine (wup_ok (1 - y.fro) hst).mono ?_
      rintro v w6 ⟨rfl, hx⟩
      rw [upErr_none (W := W.off i) hn hN]
      repeat' ((conv => whnf); first | refine RetC.mk ?_ | refine NzC.mk (by decide) ?_ | refine RngC.mk (by omega) (by omega) ?_ | refine IdxC.mk (by omega) (by omega) ?_ | refine brD (fun _ => ?_) (fun _ => ?_) | refine brND (fun _ => ?_) (fun _ => ?_) | refine brN (fun _ => ?_) (fun _ => ?_) | refine brI (fun _ => ?_) (fun _ => ?_))
      exact ⟨rfl, X.off i, rfl, hk.trans (Turns.of_no hst.has hx)⟩
    | some N =>
      obtain ⟨hH, hQ⟩ := h.half hn
      have hnk := ((h.ok.side hn).node N hN).1
      have hT : ∀ {w'}, Turns w w' (halfH X W (1 - y.fro)) (fixH (X.off i) (W.off i) (X.side (1 - y.fro)) (X.side (1 - (1 - y.fro))) ⟨some (N.hear y).2, (W.side (1 - y.fro)).byt⟩ (W.side (1 - (1 - y.fro))) ++ nodeB (X.side (1 - y.fro)).A (N.hear y).2 (W.side (1 - y.fro)).byt) → Turns w w' (worldH X W) (worldH (X.off i) ((W.off i).got y)) := fun k => by
        have hg : (W.off i).got y = (W.off i).setSide (1 - y.fro) ⟨some (N.hear y).2, (W.side (1 - y.fro)).byt⟩ := by
          unfold WorldS.got
          rw [if_neg (by rw [hcl]; decide), if_neg (by omega)]
          show (match (W.side (1 - y.fro)).node with | none => _ | some N => _) = _
          rw [hN]
          rfl
        rw [hg]
        refine Turns.world h.has hn (X' := X.off i) ?_ rfl (side_set (X := X.off i) (W := W.off i) hn ((X.off i).side (1 - y.fro)) _).2.2.2
        have := half_set (X := X.off i) (W := W.off i) hn (Y := (X.off i).side (1 - y.fro)) rfl ⟨some (N.hear y).2, (W.side (1 - y.fro)).byt⟩
        rw [setSide_id hn] at this
        rw [this]
        exact k
      have hS := hH.start.no hx
      clear hx
      rw [half_up hN] at hS
      (conv => whnf)
      refine hS.ld 0 rfl (v := .slice (some ⟨g, o, none⟩) W.fly.length X.fc) (by rw [← hfa]; rfl) ?_
      (conv => whnf)
      refine IdxC.mk (by omega) (by omega) ?_
      (conv => whnf)
      refine hS.ldRow codNote 4 (by rw [← hfa]; rfl) hxi rfl ?_
      (conv => whnf)
      refine hS.new (fun b6 w2 hb6 hS => ?_)
      (conv => whnf)
      refine hS.st 15 rfl (Nat.le_of_ble_eq_true rfl) rfl (fun w3 hS => ?_)
      (conv => whnf)
      refine hS.ld 0 rfl (v := .slice (some ⟨g, o, none⟩) W.fly.length X.fc) (by rw [← hfa]; rfl) ?_
      (conv => whnf)
      refine RngC.mk (by omega) (by omega) ?_
      (conv => whnf)
      refine (ndel2_ok hfa hl hi hflen (hS.get 4 rfl)).mono ?_
      rintro v w4 ⟨rfl, hx, ho⟩
      replace hS := hS.upd 4 rfl hx (fun b hb => foot_own hb) ownL_local ho (fun b hb => .inl (ownB_slice hb))
      clear hx ho
      (conv => whnf)
      refine hS.st 0 rfl (by exact Nat.le_of_ble_eq_true rfl) rfl (fun w5 hS => ?_)
      (conv => whnf)
      rw [← hfa] at hS
      replace hS : St w (inF (fixH X W (X.side (1 - y.fro)) (X.side (1 - (1 - y.fro))) ⟨some N, (W.side (1 - y.fro)).byt⟩ (W.side (1 - (1 - y.fro))) ++ nodeB (X.side (1 - y.fro)).A N (W.side (1 - y.fro)).byt)) w5 (gotH X W i (X.side (1 - y.fro)) (X.side (1 - (1 - y.fro))) ⟨some N, (W.side (1 - y.fro)).byt⟩ (W.side (1 - (1 - y.fro))) ++ (nodeB (X.side (1 - y.fro)).A N (W.side (1 - y.fro)).byt ++ [blk b6 107 (encNV x)])) := hS
      refine hS.ld 15 rfl (v := .bool false) (by rw [← hxc]; rfl) ?_
      have hst : Stands E q m w5 (X.off i) (W.off i) := by
        refine h.turns (m' := m) ?_ (h.ok.off i)
        refine Turns.world h.has hn (X' := X.off i) ?_ rfl rfl
        have := St.turns (St.gotOff (B := nodeB (X.side (1 - y.fro)).A N (W.side (1 - y.fro)).byt) (hS.keep 15))
        rw [← half_up hN] at this
        have h2 := half_up (X := X.off i) (W := W.off i) (n := 1 - y.fro) hN
        rw [h2]
        exact this
      (conv => whnf)
      refine hS.ld 15 rfl rfl ?_
      (conv => whnf)
      refine RngC.mk (by omega) (by omega) ?_
      (conv => whnf)
      rw [hxf]
      refine (wup_ok (1 - y.fro) hst).mono ?_
      rintro v w6 ⟨rfl, hx⟩
      replace hS := hS.no hx
      rw [upErr_some (W := W.off i) hn hN, if_pos rfl]
      clear hx hst
      rw [half_up hN] at hT hQ
      have hE := h.errs.ext hS.ext hQ
      have hQ' : High (nodeH (X.side (1 - y.fro)).A N) q := hQ.app.2.app.1
      have hs := hS.notin 1 7 7 rfl (List.mem_singleton.2 rfl) (.inl (by decide))
      have hp := hS.notin 15 7 7 rfl (List.mem_singleton.2 rfl) (.inr (by decide))
      have hsrc : 0 < x.n → ∀ b0 o0, x.a = some ⟨b0, o0, none⟩ → ¬ inF (nodeH (X.side (1 - y.fro)).A N) b0 := fun h0 b0 o0 ha => hS.notin 5 7 7 (e := cellsE X.vs W.fly) rfl (cellsE_foot.2 ⟨x, List.mem_of_getElem? hxi, footN_at h0 ha⟩) (.inl (by decide))
      (conv => whnf)
      (refine drawS tabOk mixed [] (inF (nodeH (X.side (1 - y.fro)).A N)) [0, 1, 2, 3, 4, 5] (by kernel_rfl) ?_; rintro w1 rfl; replace hS := hS.drew)
      (conv => whnf)
      refine hS.ldF 1 rfl (v := .pointer (some ⟨(X.side (1 - y.fro)).A.n, 0, none⟩)) rfl hs ?_
      (conv => whnf)
      refine hS.laXF 15 rfl rfl hp ?_
      (conv => whnf)
      have hw3 : Has _ (nodeH (X.side (1 - y.fro)).A N) := Has.left (B := [_, _]) (Has.right (A := [_, _, _, _, _, _, _]) hS.has)
      have hyx : (⟨x.fro, x.life, x.epoch, x.claim, y.cells⟩ : NoteS) = y := by
        obtain ⟨f, l, e, c, cs⟩ := y
        simp only [NoteS.mk.injEq, and_true]
        exact ⟨hxy.fro, hxy.life, hxy.epoch, hxy.claim⟩
      refine (nhear_ok x y.cells (cellsE_get (hS.get 5 rfl) hxi hyi).2 hsrc hw3 hnk ((hE.ext (Ext.drawn No _ _) fun _ h => h.elim).sub rfl) hQ').mono ?_
      rintro v w' ⟨rfl, hk⟩
      refine KeepC.mk hk.ext ?_
      rw [hyx] at hk
      replace hS := St.callAt (A := gotH X W i (X.side (1 - y.fro)) (X.side (1 - (1 - y.fro))) ⟨some N, (W.side (1 - y.fro)).byt⟩ (W.side (1 - (1 - y.fro)))) (B := [_, _]) hS hk
      repeat' ((conv => whnf); first | refine RetC.mk ?_ | refine NzC.mk (by decide) ?_ | refine RngC.mk (by omega) (by omega) ?_ | refine IdxC.mk (by omega) (by omega) ?_ | refine brD (fun _ => ?_) (fun _ => ?_) | refine brND (fun _ => ?_) (fun _ => ?_) | refine brN (fun _ => ?_) (fun _ => ?_) | refine brI (fun _ => ?_) (fun _ => ?_))
      exact ⟨rfl, X.off i, rfl, hT (St.turns (St.gotOff (B := nodeB (X.side (1 - y.fro)).A (N.hear y).2 (W.side (1 - y.fro)).byt) (hS.keep 15)))⟩
end
end Go.Proofs.YtoaghhcjlfiflaaGreatDoor

namespace Go.Proofs.YtoaghhcjlfiflaaGreatDoor
open Go Ev
section
variable {w w' : World} {X : WorldA} {W : WorldS} {E : Nat → Addr} {q m : Nat}
set_option maxHeartbeats 4000000 in
set_option maxRecDepth 10000 in
theorem wtickK_ok (n : Int) (h : Stands E q m w X W) (hm : m + 34 ≤ 40000000) : CallC Tryz.prog 17 #[.pointer (some ⟨X.w, 0, none⟩), .int .i64 n] w fun v w' => v = errV E (W.tick n).1 ∧ ∃ X', (X'.w, X'.a, X'.b) = (X.w, X.a, X.b) ∧ Turns w w' (worldH X W) (worldH X' (W.tick n).2) := by
  refine fn_intro tabOk Tryz.func17 (by kernel_rfl) rfl Tryz.ntmps17 (Nat.le_of_ble_eq_true rfl) ?_
  (conv => whnf)
  refine (wup_ok n h).mono ?_
  rintro v w1 ⟨rfl, hx⟩
  by_cases hn : n = 0 ∨ n = 1
  case neg =>
    rw [show W.tick n = (2, W) from if_pos (by omega), show W.upErr n = 2 from if_pos (by omega)]
    repeat' ((conv => whnf); first | refine RetC.mk ?_ | refine NzC.mk (by decide) ?_ | refine RngC.mk (by omega) (by omega) ?_ | refine IdxC.mk (by omega) (by omega) ?_ | refine brD (fun _ => ?_) (fun _ => ?_) | refine brND (fun _ => ?_) (fun _ => ?_) | refine brN (fun _ => ?_) (fun _ => ?_) | refine brI (fun _ => ?_) (fun _ => ?_))
    exact ⟨rfl, X, rfl, Turns.of_no h.has hx⟩
  cases hN : (W.side n).node with
  | none =>
    rw [show W.tick n = (7, W) by unfold WorldS.tick; rw [if_neg (by omega), hN], upErr_none hn hN]
    repeat' ((conv => whnf); first | refine RetC.mk ?_ | refine NzC.mk (by decide) ?_ | refine RngC.mk (by omega) (by omega) ?_ | refine IdxC.mk (by omega) (by omega) ?_ | refine brD (fun _ => ?_) (fun _ => ?_) | refine brND (fun _ => ?_) (fun _ => ?_) | refine brN (fun _ => ?_) (fun _ => ?_) | refine brI (fun _ => ?_) (fun _ => ?_))
    exact ⟨rfl, X, rfl, Turns.of_no h.has hx⟩
  | some N =>
    rw [show W.tick n = W.ticked n N (N.tick (W.side n).byt) by unfold WorldS.tick; rw [if_neg (by omega), hN], upErr_some hn hN, if_pos rfl]
    obtain ⟨hH, hQ⟩ := h.half hn
    have hnk := ((h.ok.side hn).node N hN).1
    have hBk := (h.ok.side hn).bok
    have hflen := h.ok.fly
    have hevl := h.ok.events
    have hbok := NodeS.tick_bok (N := N) hBk
    have hshort := tick_short N (W.side n).byt
    have hcell := tick_cells N (W.side n).byt
    have hfew := tick_few hnk (W.side n).byt
    have hS := hH.start.no hx
    have hE := h.errs.ext hS.ext hQ
    have hT : ∀ {w'} {s : SideS}, Turns w w' (halfH X W n) (fixH X W (X.side n) (X.side (1 - n)) s (W.side (1 - n)) ++ sideH (X.side n) s) → ∃ X', (X'.w, X'.a, X'.b) = (X.w, X.a, X.b) ∧ Turns w w' (worldH X W) (worldH X' (W.setSide n s)) := fun {w'} {s} k => ⟨X, rfl, by
      have := Turns.side h.has hn (Y := X.side n) rfl k
      rwa [setSide_id hn] at this⟩
    have hT2 : ∀ {w'} {s : SideS} {f : List NoteS} {e : List (Int × Int)} {fa : Option Addr} {fc : Nat} {vs : List NoteV} {ea : Option Addr} {ec : Nat}, Turns w w' (halfH X W n) (fixH (X.with fa fc vs ea ec) (W.with f e) (X.side n) (X.side (1 - n)) s (W.side (1 - n)) ++ sideH (X.side n) s) → ∃ X', (X'.w, X'.a, X'.b) = (X.w, X.a, X.b) ∧ Turns w w' (worldH X W) (worldH X' ((W.setSide n s).with f e)) := fun {w'} {s} {f} {e} {fa} {fc} {vs} {ea} {ec} k => ⟨X.with fa fc vs ea ec, rfl, by
      rw [← half_with hn] at k
      exact Turns.world h.has hn k rfl (with_side hn s f e)⟩
    have hU : ∀ {w'} {s : SideS}, St w (inF (halfH X W n)) w' (fixH X W (X.side n) (X.side (1 - n)) s (W.side (1 - n)) ++ sideH (X.side n) s) → ∃ X', (X'.w, X'.a, X'.b) = (X.w, X.a, X.b) ∧ Turns w w' (worldH X W) (worldH X' (W.setSide n s)) := fun k => hT (St.turns k)
    have hU2 : ∀ {w'} {s : SideS} {f : List NoteS} {e : List (Int × Int)} {fa : Option Addr} {fc : Nat} {vs : List NoteV} {ea : Option Addr} {ec : Nat}, St w (inF (halfH X W n)) w' (fixH (X.with fa fc vs ea ec) (W.with f e) (X.side n) (X.side (1 - n)) s (W.side (1 - n)) ++ sideH (X.side n) s) → ∃ X', (X'.w, X'.a, X'.b) = (X.w, X.a, X.b) ∧ Turns w w' (worldH X W) (worldH X' ((W.setSide n s).with f e)) := fun k => hT2 (St.turns k)
    generalize hSS : inF (halfH X W n) = S at hS hU hU2
    rw [half_up hN] at hS hQ
    clear hH hx hT hT2 hSS
    generalize (W.side n).byt = B at *
    (conv => whnf)
    refine hS.ld 1 rfl (v := .pointer (some ⟨(X.side n).A.n, 0, none⟩)) rfl ?_
    (conv => whnf)
    refine hS.ld 7 rfl rfl ?_
    (conv => whnf)
    refine (role_active (hS.blk 8 rfl)).mono ?_
    rintro v w2 ⟨rfl, rfl⟩
    (conv => whnf)
    refine hS.ld 1 rfl (v := .pointer (some ⟨(X.side n).A.n, 0, none⟩)) rfl ?_
    (conv => whnf)
    have hw3 : Has _ (nodeB (X.side n).A N B) := Has.right (A := [_, _, _, _, _, _, _]) hS.has
    refine (ntick_ok hw3 hnk hBk (by omega) (hE.sub rfl) hQ.app.2).mono ?_
    rintro v w3 ⟨a, c, x, y, rfl, hk⟩
    replace hS := St.callAt (A := fixH X W (X.side n) (X.side (1 - n)) ⟨some N, B⟩ (W.side (1 - n))) (B := []) hS hk
    clear hk hw3
    generalize N.tick B = T at *
    obtain ⟨e, l, N', B'⟩ := T
    dsimp only at *
    replace hS : St w S w3 (tickH X W (X.side n) (X.side (1 - n)) N' B' (W.side (1 - n)) a c x y l) := hS
    have hnl : (l.map (noteV x y)).length = l.length := List.length_map _
    generalize hll : (l.map (noteV x y)).length = ll at hnl
    (conv => whnf)
    refine hS.ld 1 rfl rfl ?_
    (conv => whnf)
    refine (bpower_ok (hS.blk 14 rfl) hbok.len).mono ?_
    rintro v w4 ⟨rfl, hx⟩
    replace hS := hS.no hx
    clear hx
    have hpl : W.ticked n N (e, l, N', B') = if B'.off = true then (e, W.setSide n ⟨none, B'⟩) else if e ≠ 0 then (e, W.setSide n ⟨some N', B'⟩) else
      (0, (W.setSide n ⟨some N', B'⟩).with (W.fly ++ l.take (200 - W.fly.length)) (if N.role.active = false ∧ N'.role.active = true ∧ W.events.length < 1000 then W.events ++ [(n, N'.role.epoch)] else W.events)) := rfl
    rw [hpl]
    clear hpl
    cases hoff : B'.off
    case true =>
      rw [if_pos rfl]
      (conv => whnf)
      refine hS.st 1 rfl (by exact Nat.le_of_ble_eq_true rfl) rfl (fun w' hS => ?_)
      repeat' ((conv => whnf); first | refine RetC.mk ?_ | refine NzC.mk (by decide) ?_ | refine RngC.mk (by omega) (by omega) ?_ | refine IdxC.mk (by omega) (by omega) ?_ | refine brD (fun _ => ?_) (fun _ => ?_) | refine brND (fun _ => ?_) (fun _ => ?_) | refine brN (fun _ => ?_) (fun _ => ?_) | refine brI (fun _ => ?_) (fun _ => ?_))
      exact ⟨rfl, hU (s := ⟨none, B'⟩) (hS.sel [0, 1, 2, 3, 4, 5, 6, 14] (by decide))⟩
    rw [if_neg (by decide)]
    cases e with
    | succ j =>
      rw [if_pos (Nat.succ_ne_zero j)]
      repeat' ((conv => whnf); first | refine RetC.mk ?_ | refine NzC.mk (by decide) ?_ | refine RngC.mk (by omega) (by omega) ?_ | refine IdxC.mk (by omega) (by omega) ?_ | refine brD (fun _ => ?_) (fun _ => ?_) | refine brND (fun _ => ?_) (fun _ => ?_) | refine brN (fun _ => ?_) (fun _ => ?_) | refine brI (fun _ => ?_) (fun _ => ?_))
      exact ⟨rfl, hU (s := ⟨some N', B'⟩) (hS.keep 15)⟩
    | zero =>
      rw [if_neg (fun h => h rfl)]
      have hev0 : ∀ {b1 b2 : Bool}, N.role.active = b1 → N'.role.active = b2 → (b1 = true ∨ b2 = false ∨ ¬ W.events.length < 1000) → (if N.role.active = false ∧ N'.role.active = true ∧ W.events.length < 1000 then W.events ++ [(n, N'.role.epoch)] else W.events) = W.events := fun h1 h2 h3 => if_neg (by
        rw [h1, h2]
        rintro ⟨rfl, rfl, h4⟩
        rcases h3 with h3 | h3 | h3
        · cases h3
        · cases h3
        · exact h3 h4)
      have hev1 : N.role.active = false → N'.role.active = true → W.events.length < 1000 → (if N.role.active = false ∧ N'.role.active = true ∧ W.events.length < 1000 then W.events ++ [(n, N'.role.epoch)] else W.events) = W.events ++ [(n, N'.role.epoch)] := fun h1 h2 h3 => if_pos ⟨h1, h2, h3⟩
      replace hS : St w S w4 (tickH (X.with X.fa X.fc X.vs X.ea X.ec) (W.with W.fly W.events) (X.side n) (X.side (1 - n)) N' B' (W.side (1 - n)) a c x y l) := hS
      generalize hev : (if N.role.active = false ∧ N'.role.active = true ∧ W.events.length < 1000 then W.events ++ [(n, N'.role.epoch)] else W.events) = ev
      cases ha : N.role.active
      · (conv => whnf)
        refine hS.ld 1 rfl (v := .pointer (some ⟨(X.side n).A.n, 0, none⟩)) rfl ?_
        (conv => whnf)
        refine hS.ld 7 rfl rfl ?_
        (conv => whnf)
        refine (role_active (hS.blk 8 rfl)).mono ?_
        rintro v w5 ⟨rfl, rfl⟩
        cases ha2 : N'.role.active
        · rw [← hev.symm.trans (hev0 ha ha2 (.inr (.inl rfl)))] at hS
          generalize X.ea = ea at hS
          generalize X.ec = ec at hS
          clear hev hev0 hev1 ha ha2
          (conv => whnf)
          refine tickLoop (ea := ea) (ec := ec) (ev := ev) ⟨rfl, rfl, rfl, rfl, trivial⟩ hS hflen hshort hll hnl hcell hfew ?_
          rintro σ w6 ⟨fa, fc, vs, hS⟩
          rw [flyK_end hnl] at hS
          repeat' ((conv => whnf); first | refine RetC.mk ?_ | refine NzC.mk (by decide) ?_ | refine RngC.mk (by omega) (by omega) ?_ | refine IdxC.mk (by omega) (by omega) ?_ | refine brD (fun _ => ?_) (fun _ => ?_) | refine brND (fun _ => ?_) (fun _ => ?_) | refine brN (fun _ => ?_) (fun _ => ?_) | refine brI (fun _ => ?_) (fun _ => ?_))
          exact ⟨rfl, hU2 (s := ⟨some N', B'⟩) (hS.keep 15)⟩
        · (conv => whnf)
          refine hS.ld 0 rfl rfl ?_
          (conv => whnf)
          refine brD (fun h5 => ?_) (fun h5 => ?_)
          · have hv := hev.symm.trans (hev1 ha ha2 (by exact Int.ofNat_lt.1 h5))
            have hvl : ev.length = W.events.length + 1 := by rw [hv, List.length_append]; rfl
            (conv => whnf)
            refine drawT tabOk mixed [4] (evT X W) (.take 0 (.take 1 (.take 2 (.take 3 (.take 5 (.take 6 (.take 7 (.take 8 (.take 9 (.take 10 (.take 11 (.take 12 (.alt 4 (.alt 13 (.take 14 (.alt 15 (.alt 16 (.take 17 (.take 18 (.alt 19 .fin .fin))) .fin) .fin)) .fin) (.alt 13 (.take 14 (.alt 4 (.alt 15 (.alt 16 (.take 17 (.take 18 (.alt 19 .fin .fin))) .fin) .fin) (.alt 15 (.alt 4 (.alt 16 (.take 17 (.take 18 (.alt 19 .fin .fin))) .fin) .fin) .fin))) .fin)))))))))))))) (by kernel_rfl) ?_
            rintro w6 rfl
            replace hS := hS.drew
            have hK := hS.ref (evT X W)
            have hn1 := hS.ne 1 0 rfl rfl (by decide)
            have hn7 := hS.ne 7 0 rfl rfl (by decide)
            have hm1 : (X.side n).s ∉ (ownL 64 2 encEv (.slice X.ea W.events.length X.ec) W.events).foot := hS.apartAt 1 6 rfl rfl (by decide) _ (List.mem_singleton.2 rfl)
            have hm7 : (X.side n).A.n ∉ (ownL 64 2 encEv (.slice X.ea W.events.length X.ec) W.events).foot := hS.apartAt 7 6 rfl rfl (by decide) _ (List.mem_singleton.2 rfl)
            repeat' ((conv => whnf); first | refine RetC.mk ?_ | refine NzC.mk (by decide) ?_ | refine RngC.mk (by omega) (by omega) ?_ | refine IdxC.mk (by omega) (by omega) ?_ | refine hS.ld 0 rfl rfl (KeepC.mk hK ?_) | refine hS.ldF 1 rfl (v := .pointer (some ⟨(X.side n).A.n, 0, none⟩)) rfl (fun h => h.elim hn1 hm1) ?_ | refine hS.ldF 7 rfl rfl (fun h => h.elim hn7 hm7) ?_ | (refine (role_epoch (hS.blk 8 rfl)).mono ?_; rintro v w7 ⟨rfl, rfl⟩; refine KeepC.mk hK ?_) | (refine hS.litX Tryz.underlying60 (sz := 2) (by kernel_rfl) (z := .agg (encEv (0, 0)).toArray) (by kernel_rfl) rfl rfl (cs := encEv (n, N'.role.epoch)) (by rfl) (fun b9 w8 hb9 hx hS => ?_); replace hK := hK.trans hx.of_no; clear hx; refine KeepC.mk hK ?_) | (refine hS.appX codEv 6 (ys := [(n, N'.role.epoch)]) (G := fun _ => True) Tryz.underlying60 (bytes := 16) (by kernel_rfl) (z := .agg (encEv (0, 0)).toArray) (by kernel_rfl) rfl rfl (Slc.of_blk codEv (hS.blk 17 rfl) rfl (by simp) (fun _ _ => trivial) rfl) (by show W.events.length + 1 ≤ _; unfold maxLen; omega) (by show (W.events.length + 1) * 16 ≤ _; omega) (fun ea ec w9 hx hS => ?_); replace hK := hK.trans (hx.mono fun d hd => .inr (foot_own hd)); clear hx; refine KeepC.mk hK ?_) | (refine hS.stK hK 0 rfl (by exact Nat.le_of_ble_eq_true rfl) rfl (.inl rfl) (fun w' hK hS => KeepC.mk hK ?_)) | refine And.intro ?_ ?_ | refine brD (fun _ => ?_) (fun _ => ?_) | refine brND (fun _ => ?_) (fun _ => ?_) | refine brN (fun _ => ?_) (fun _ => ?_) | refine brI (fun _ => ?_) (fun _ => ?_))
            all_goals
              replace hS := hS.keep 17
              replace hS := hS.as (H' := tickH (X.with X.fa X.fc X.vs ea ec) (W.with W.fly (W.events ++ [(n, N'.role.epoch)])) (X.side n) (X.side (1 - n)) N' B' (W.side (1 - n)) a c x y l) (by
                rw [show (W.with W.fly W.events).events.length + 1 = (W.events ++ [(n, N'.role.epoch)]).length by rw [List.length_append]; rfl]
                rfl)
              rw [← hv] at hS
              clear hev hev0 hev1 ha ha2 hK
              refine tickLoop (ea := ea) (ec := ec) (ev := ev) ⟨rfl, rfl, rfl, rfl, trivial⟩ hS hflen hshort hll hnl hcell hfew ?_
              rintro σ w6 ⟨fa, fc, vs, hS⟩
              rw [flyK_end hnl] at hS
              repeat' ((conv => whnf); first | refine RetC.mk ?_ | refine NzC.mk (by decide) ?_ | refine RngC.mk (by omega) (by omega) ?_ | refine IdxC.mk (by omega) (by omega) ?_ | refine brD (fun _ => ?_) (fun _ => ?_) | refine brND (fun _ => ?_) (fun _ => ?_) | refine brN (fun _ => ?_) (fun _ => ?_) | refine brI (fun _ => ?_) (fun _ => ?_))
              exact ⟨rfl, hU2 (s := ⟨some N', B'⟩) (hS.keep 15)⟩
          · rw [← hev.symm.trans (hev0 ha ha2 (.inr (.inr fun h => h5 (by exact Int.ofNat_lt.2 h))))] at hS
            generalize X.ea = ea at hS
            generalize X.ec = ec at hS
            clear hev hev0 hev1 ha ha2
            (conv => whnf)
            refine tickLoop (ea := ea) (ec := ec) (ev := ev) ⟨rfl, rfl, rfl, rfl, trivial⟩ hS hflen hshort hll hnl hcell hfew ?_
            rintro σ w6 ⟨fa, fc, vs, hS⟩
            rw [flyK_end hnl] at hS
            repeat' ((conv => whnf); first | refine RetC.mk ?_ | refine NzC.mk (by decide) ?_ | refine RngC.mk (by omega) (by omega) ?_ | refine IdxC.mk (by omega) (by omega) ?_ | refine brD (fun _ => ?_) (fun _ => ?_) | refine brND (fun _ => ?_) (fun _ => ?_) | refine brN (fun _ => ?_) (fun _ => ?_) | refine brI (fun _ => ?_) (fun _ => ?_))
            exact ⟨rfl, hU2 (s := ⟨some N', B'⟩) (hS.keep 15)⟩
      · rw [← hev.symm.trans (hev0 ha rfl (.inl rfl))] at hS
        generalize X.ea = ea at hS
        generalize X.ec = ec at hS
        clear hev hev0 hev1 ha
        (conv => whnf)
        refine tickLoop (ea := ea) (ec := ec) (ev := ev) ⟨rfl, rfl, rfl, rfl, trivial⟩ hS hflen hshort hll hnl hcell hfew ?_
        rintro σ w6 ⟨fa, fc, vs, hS⟩
        rw [flyK_end hnl] at hS
        repeat' ((conv => whnf); first | refine RetC.mk ?_ | refine NzC.mk (by decide) ?_ | refine RngC.mk (by omega) (by omega) ?_ | refine IdxC.mk (by omega) (by omega) ?_ | refine brD (fun _ => ?_) (fun _ => ?_) | refine brND (fun _ => ?_) (fun _ => ?_) | refine brN (fun _ => ?_) (fun _ => ?_) | refine brI (fun _ => ?_) (fun _ => ?_))
        exact ⟨rfl, hU2 (s := ⟨some N', B'⟩) (hS.keep 15)⟩
end
end Go.Proofs.YtoaghhcjlfiflaaGreatDoor

namespace Go.Proofs.YtoaghhcjlfiflaaGreatDoor
open Go Ev
section
variable {w w' : World} {X : WorldA} {W : WorldS} {E : Nat → Addr} {q m : Nat}
theorem tup3 {X' X : WorldA} (h : (X'.w, X'.a, X'.b) = (X.w, X.a, X.b)) : X'.w = X.w ∧ X'.a = X.a ∧ X'.b = X.b := by
  obtain ⟨h1, h2⟩ := Prod.mk.inj h
  obtain ⟨h2, h3⟩ := Prod.mk.inj h2
  exact ⟨h1, h2, h3⟩
theorem psettleK_ok (n : Int) (h : Stands E q m w X W) (hm : m + 34 * 24 ≤ 40000000) : CallC Tryz.prog 25 #[.pointer (some ⟨X.w, 0, none⟩), .int .i64 n] w fun v w' => v = errV E (W.settle n 24).1 ∧ ∃ X', (X'.w, X'.a, X'.b) = (X.w, X.a, X.b) ∧ Turns w w' (worldH X W) (worldH X' (W.settle n 24).2) := by
  refine fn_intro tabOk Tryz.func25 (by kernel_rfl) rfl Tryz.ntmps25 (Nat.le_of_ble_eq_true rfl) ?_
  (conv => whnf)
  refine loopR tabOk (fun σ w' r => ∃ (i : Nat) (X' : WorldA) (W' : WorldS), σ = [(6, .int .i64 i), (1, .int .i64 n), (0, .pointer (some ⟨X.w, 0, none⟩))] ∧ r = 24 - i ∧ i ≤ 24 ∧ (X'.w, X'.a, X'.b) = (X.w, X.a, X.b) ∧ Stands E q (m + 34 * i) w' X' W' ∧ Turns w w' (worldH X W) (worldH X' W') ∧ W.settle n 24 = W'.settle n (24 - i))
    (σ' := [(6, .int .i64 ((0 : Nat) : Int)), (1, .int .i64 n), (0, .pointer (some ⟨X.w, 0, none⟩))]) (n := 24) ⟨rfl, rfl, rfl, trivial⟩ ⟨0, X, W, rfl, rfl, Nat.zero_le _, rfl, h, Turns.refl h.has, rfl⟩ ?_
  rintro _ w1 r ⟨i, X', W', rfl, rfl, hi, hw, hst, hT, hr⟩
  (conv => whnf)
  refine brD (fun h3 => ?_) (fun h3 => ?_)
  · obtain ⟨j, hj⟩ : ∃ j, 24 - i = j + 1 := ⟨24 - i - 1, by omega⟩
    rw [hj] at hr
    (conv => whnf)
    obtain ⟨e1, e2, e3⟩ := tup3 hw
    have hc := wtickK_ok n hst (by omega)
    rw [e1, e2, e3] at hc
    refine hc.mono ?_
    clear hc
    rintro v w2 ⟨rfl, X2, hw2, hT2⟩
    have hst2 := hst.turns hT2 (hst.ok.tick (by omega) n)
    have hT3 := hT.trans hT2
    cases he : (W'.tick n).1 with
    | succ e =>
      have hr2 : W.settle n 24 = W'.tick n := by
        rw [hr]
        show (if (W'.tick n).1 ≠ 0 then _ else _) = _
        rw [if_pos (by rw [he]; exact Nat.succ_ne_zero e)]
      repeat' ((conv => whnf); first | refine RetC.mk ?_ | refine NzC.mk (by decide) ?_ | refine RngC.mk (by omega) (by omega) ?_ | refine IdxC.mk (by omega) (by omega) ?_ | refine brD (fun _ => ?_) (fun _ => ?_) | refine brND (fun _ => ?_) (fun _ => ?_) | refine brN (fun _ => ?_) (fun _ => ?_) | refine brI (fun _ => ?_) (fun _ => ?_))
      rw [hr2]
      exact ⟨by rw [he], X2, hw2, hT3⟩
    | zero =>
      have hr2 : W.settle n 24 = ((W'.tick n).2.land (W'.tick n).2.fly.length).settle n j := by
        rw [hr]
        show (if (W'.tick n).1 ≠ 0 then _ else _) = _
        rw [if_neg (fun h => h he)]
      generalize (W'.tick n).2 = V at hr2 hst2 hT2 hT3
      (conv => whnf)
      refine loopR tabOk (fun σ w' r => ∃ (X4 : WorldA) (V4 : WorldS), σ = [(6, .int .i64 i), (1, .int .i64 n), (0, .pointer (some ⟨X.w, 0, none⟩))] ∧ r = V4.fly.length ∧ (X4.w, X4.a, X4.b) = (X.w, X.a, X.b) ∧ Stands E q (m + 34 * i + 34) w' X4 V4 ∧ Turns w w' (worldH X W) (worldH X4 V4) ∧ V.land V.fly.length = V4.land V4.fly.length)
        (σ' := [(6, .int .i64 i), (1, .int .i64 n), (0, .pointer (some ⟨X.w, 0, none⟩))]) (n := V.fly.length) ⟨rfl, rfl, rfl, trivial⟩ ⟨X2, V, rfl, rfl, hw2, hst2, hT3, rfl⟩ ?_
      rintro _ w4 r ⟨X4, V4, rfl, rfl, hw4, hst4, hT4, hr4⟩
      (conv => whnf)
      obtain ⟨e1, e2, e3⟩ := tup3 hw4
      have hc := wdeliverK_ok 0 hst4
      rw [e1, e2, e3] at hc
      refine hc.mono ?_
      clear hc
      rintro v w5 ⟨rfl, X5, hw5, hT5⟩
      cases hf : V4.fly.length with
      | zero =>
        rw [deliver_none hf] at hT5 ⊢
        (conv => whnf)
        refine RngC.mk (by omega) (by omega) ?_
        (conv => whnf)
        refine LoopE.mk ⟨_, [(6, .int .i64 ((i + 1 : Nat) : Int)), (1, _), (0, .pointer (some ⟨X.w, 0, none⟩))], ?_, ⟨rfl, rfl, rfl, trivial⟩, ⟨i + 1, X5, V4, rfl, rfl, by omega, hw5, hst4.turns hT5 hst4.ok, hT4.trans hT5, ?_⟩⟩
        · omega
        · rw [hr2, hr4, hf]
          show V4.settle n j = V4.settle n (24 - (i + 1))
          congr 1
          omega
      | succ l =>
        obtain ⟨hd1, hd2⟩ := deliver0 hf
        rw [hd1]
        (conv => whnf)
        refine LoopE.mk ⟨_, [(6, _), (1, _), (0, .pointer (some ⟨X.w, 0, none⟩))], ?_, ⟨rfl, rfl, rfl, trivial⟩, ⟨X5, (V4.deliver 0).2, rfl, rfl, hw5, hst4.turns hT5 (hst4.ok.deliver 0), hT4.trans hT5, ?_⟩⟩
        · omega
        · rw [hr4, hf, hd2]
          show (if V4.fly.length = 0 then _ else _) = _
          rw [if_neg (by omega)]
  · obtain rfl : i = 24 := by omega
    repeat' ((conv => whnf); first | refine RetC.mk ?_ | refine NzC.mk (by decide) ?_ | refine RngC.mk (by omega) (by omega) ?_ | refine IdxC.mk (by omega) (by omega) ?_ | refine brD (fun _ => ?_) (fun _ => ?_) | refine brND (fun _ => ?_) (fun _ => ?_) | refine brN (fun _ => ?_) (fun _ => ?_) | refine brI (fun _ => ?_) (fun _ => ?_))
    rw [hr]
    exact ⟨rfl, X', hw, hT⟩
end
end Go.Proofs.YtoaghhcjlfiflaaGreatDoor

namespace Go.Proofs.YtoaghhcjlfiflaaGreatDoor
open Go Ev
section
variable {w w' : World} {X : WorldA} {W : WorldS}
theorem node_of {w0 : World} {S : Nat → Prop} {n : Int} {N : NodeS} {P : List Ent} (h : St w0 S w (P ++ (worldH X W ++ []))) (hn : n = 0 ∨ n = 1) (h1 : (W.side n).node = some N) : St w0 S w (nodeH (X.side n).A N) := by
  have e1 : nodeB (X.side n).A N (W.side n).byt = sideH (X.side n) (W.side n) := by unfold sideH; rw [h1]
  replace h := h.weaken (List.sublist_append_right _ _)
  rw [List.append_nil] at h
  have h2 := h.perm (view_perm X W hn)
  unfold viewH at h2
  rw [← e1] at h2
  exact h2.weaken ((List.sublist_append_left _ _).trans ((List.sublist_append_left _ _).trans (List.sublist_append_right _ _)))
theorem side_eq {X' X : WorldA} (h : (X'.w, X'.a, X'.b) = (X.w, X.a, X.b)) (n : Int) : X'.side n = X.side n := by
  obtain ⟨_, h2, h3⟩ := tup3 h
  unfold WorldA.side
  rw [h2, h3]
end
theorem got_up {W : WorldS} {x : NoteS} {n : Int} (hn : n = 0 ∨ n = 1) (h : (W.side n).node ≠ none) : ((W.got x).side n).node ≠ none := by
  unfold WorldS.got
  split
  · split
    · exact h
    · exact h
  split
  · exact h
  rename_i h1
  have h1 : 1 - x.fro = 0 ∨ 1 - x.fro = 1 := by omega
  split
  · exact h
  · rename_i M hM
    by_cases he : n = 1 - x.fro
    · subst he
      rw [(sides_set h1 W _).1]
      simp
    · have h2 : n = 1 - (1 - x.fro) := by omega
      rw [h2, (sides_set h1 W _).2.1, ← h2]
      exact h
theorem deliver_up {W : WorldS} {k n : Int} (hn : n = 0 ∨ n = 1) (h : (W.side n).node ≠ none) : ((W.deliver k).2.side n).node ≠ none := by
  unfold WorldS.deliver
  split
  · exact h
  split
  · exact h
  · exact got_up (W := W.off k) hn h
theorem deliver_len (W : WorldS) : (W.deliver 0).2.fly.length = W.fly.length - 1 := by
  cases h : W.fly.length with
  | zero => rw [deliver_none h, h]
  | succ j => exact (deliver0 h).2
theorem up_some {s : SideS} (h : s.node ≠ none) : ∃ N, s.node = some N := by
  cases hN : s.node with
  | none => exact absurd hN h
  | some N => exact ⟨N, rfl⟩
set_option maxRecDepth 100000 in
theorem worldMirrors_ok {E : Nat → Addr} (W : World) (hE : Errs W E W.heap.size insErrs) (a0 : Option Addr) (n0 c0 : Nat) (rules : List RuleS) (hr : Slc W 5 encRule (fun _ => True) a0 n0 rules) (a1 : Option Addr) (n1 c1 : Nat) (ys : List StepW) (hy : Slc W 10 encSW (StepW.Ok W) a1 n1 ys) (n : Int) :
    CallC Tryz.prog 5 #[.slice a0 n0 c0, .slice a1 n1 c1, .int .i64 n] W fun v w' => v = .bool true ∧ Ext No W w' := by
  skip
  have hE2 : Errs W E W.heap.size insErrs := hE
  have hcd := fault_code rules
  obtain rfl := hr.len
  have hl1 := hy.len
  have hm1 := hy.max
  have hm0 := hr.max
  refine fn_intro tabOk Tryz.func5 (by kernel_rfl) rfl Tryz.ntmps5 (Nat.le_of_ble_eq_true rfl) ?_
  (conv => whnf)
  refine (born_ok' hE2 (Nat.le_refl _)).mono ?_
  rintro v w1 ⟨rfl, hx⟩
  (conv => whnf)
  refine brD (fun h1 => ?_) (fun h1 => ?_)
  · repeat' ((conv => whnf); first | refine RetC.mk ?_ | refine NzC.mk (by decide) ?_ | refine RngC.mk (by omega) (by omega) ?_ | refine IdxC.mk (by omega) (by omega) ?_ | refine brD (fun _ => ?_) (fun _ => ?_) | refine brND (fun _ => ?_) (fun _ => ?_) | refine brN (fun _ => ?_) (fun _ => ?_) | refine brI (fun _ => ?_) (fun _ => ?_))
    exact ⟨rfl, hx⟩
  (conv => whnf)
  refine (stepsFit_ok 300 (hy.no hx)).mono ?_
  rintro v w2 ⟨b, rfl, hfit, hx2⟩
  replace hx := hx.trans hx2
  clear hx2
  cases b
  · repeat' ((conv => whnf); first | refine RetC.mk ?_ | refine NzC.mk (by decide) ?_ | refine RngC.mk (by omega) (by omega) ?_ | refine IdxC.mk (by omega) (by omega) ?_ | refine brD (fun _ => ?_) (fun _ => ?_) | refine brND (fun _ => ?_) (fun _ => ?_) | refine brN (fun _ => ?_) (fun _ => ?_) | refine brI (fun _ => ?_) (fun _ => ?_))
    exact ⟨rfl, hx⟩
  obtain ⟨hfit, hn1⟩ := hfit rfl
  (conv => whnf)
  refine brD (fun h4 => ?_) (fun h4 => ?_)
  · repeat' ((conv => whnf); first | refine RetC.mk ?_ | refine NzC.mk (by decide) ?_ | refine RngC.mk (by omega) (by omega) ?_ | refine IdxC.mk (by omega) (by omega) ?_ | refine brD (fun _ => ?_) (fun _ => ?_) | refine brND (fun _ => ?_) (fun _ => ?_) | refine brN (fun _ => ?_) (fun _ => ?_) | refine brI (fun _ => ?_) (fun _ => ?_))
    exact ⟨rfl, hx⟩
  (conv => whnf)
  refine brD (fun h5 => ?_) (fun h5 => ?_)
  · repeat' ((conv => whnf); first | refine RetC.mk ?_ | refine NzC.mk (by decide) ?_ | refine RngC.mk (by omega) (by omega) ?_ | refine IdxC.mk (by omega) (by omega) ?_ | refine brD (fun _ => ?_) (fun _ => ?_) | refine brND (fun _ => ?_) (fun _ => ?_) | refine brN (fun _ => ?_) (fun _ => ?_) | refine brI (fun _ => ?_) (fun _ => ?_))
    exact ⟨rfl, hx⟩
  (conv => whnf)
  refine (ownRules_ok (hr.no hx) (by omega)).mono ?_
  rintro v w3 ⟨a3, c3, rfl, hx3, ho3, _⟩
  replace hx := hx.trans hx3
  have hr3 := ownL_slc (G := fun _ => True) codRule ho3 (fun _ _ => trivial)
  by_cases h0 : (faultL rules).1 ≠ 0
  · (conv => whnf)
    refine (wnew_bad hr3 (hE2.ext hx fun _ h => h.elim) h0).mono ?_
    rintro v w4 ⟨⟨e, rfl, hF⟩, hx4⟩
    clear hx3 ho3 hr3
    replace hx := hx.trans hx4
    rcases hF with ⟨_, h⟩ | ⟨_, _, f, h, _⟩
    · obtain ⟨k, hk⟩ : ∃ k, (faultL rules).1 = k + 1 := ⟨(faultL rules).1 - 1, by omega⟩
      rw [hk] at h
      subst h
      repeat' ((conv => whnf); first | refine RetC.mk ?_ | refine NzC.mk (by decide) ?_ | refine RngC.mk (by omega) (by omega) ?_ | refine IdxC.mk (by omega) (by omega) ?_ | refine brD (fun _ => ?_) (fun _ => ?_) | refine brND (fun _ => ?_) (fun _ => ?_) | refine brN (fun _ => ?_) (fun _ => ?_) | refine brI (fun _ => ?_) (fun _ => ?_))
      all_goals exact ⟨rfl, hx⟩
    · subst h
      repeat' ((conv => whnf); first | refine RetC.mk ?_ | refine NzC.mk (by decide) ?_ | refine RngC.mk (by omega) (by omega) ?_ | refine IdxC.mk (by omega) (by omega) ?_ | refine brD (fun _ => ?_) (fun _ => ?_) | refine brND (fun _ => ?_) (fun _ => ?_) | refine brN (fun _ => ?_) (fun _ => ?_) | refine brI (fun _ => ?_) (fun _ => ?_))
      all_goals exact ⟨rfl, hx⟩
  have h0 : (faultL rules).1 = 0 := Classical.byContradiction h0
  (conv => whnf)
  refine (wnew_ok hr3 (by omega) (hE2.ext hx fun _ h => h.elim) hx.size h0).mono ?_
  rintro v w4 ⟨A, rfl, hx4, hst4, hf4⟩
  have hS : St W No w4 (worldH A (.born rules) ++ []) := (((St.start W No).no hx).madeAll hx4 hst4.has hf4).perm (List.Perm.of_eq (by simp))
  have hG : Good 0 1 0 (.born rules) := ⟨hst4.ok, .born (fault_good.1 h0), .born rules, Nat.le_refl _⟩
  have hM : MG (.born rules) := .born (fault_good.1 h0)
  clear hst4 hf4 hx3 ho3 hr3 hx hx4
  generalize WorldS.born rules = V at hS hG hM
  (conv => whnf)
  have hn : n = 0 ∨ n = 1 := by omega
  have hn2 : 1 - n = 0 ∨ 1 - n = 1 := by omega
  refine loopR tabOk (fun σ w' r => ∃ (k : Nat) (A' : WorldA) (V' : WorldS), σ = [(10, .int .i64 k), (8, .pointer (some ⟨A.w, 0, none⟩)), (2, .int .i64 n), (1, .slice a1 n1 c1)] ∧ r = n1 - k ∧ k ≤ n1 ∧ A'.w = A.w ∧ St W No w' (worldH A' V' ++ []) ∧ Good (34 * k) (1 + k) k V' ∧ MG V')
    (σ' := [(10, .int .i64 ((0 : Nat) : Int)), (8, .pointer (some ⟨A.w, 0, none⟩)), (2, .int .i64 n), (1, .slice a1 n1 c1)]) (n := n1) ⟨rfl, rfl, rfl, rfl, trivial⟩ ⟨0, A, V, rfl, rfl, Nat.zero_le _, rfl, hS, hG, hM⟩ ?_
  clear hS hG hM
  rintro _ w1 r ⟨k, A', V', rfl, rfl, hk, hA, hS, hG, hM⟩
  rw [← hA]
  (conv => whnf)
  refine brD (fun h3 => ?_) (fun h3 => ?_)
  · have hk2 : k < n1 := by omega
    obtain ⟨b0, o0, x, hxk, hxok, rfl, hb0, hc⟩ := hy.at hk2
    (conv => whnf)
    refine IdxC.mk (by omega) (by omega) ?_
    (conv => whnf)
    refine hS.lar (l := encSW x) rfl hc id ?_
    (conv => whnf)
    refine (wact_ok x hS hG.ok (by omega) hxok (hfit x (List.mem_of_getElem? hxk)) hE2).mono ?_
    rintro v w2 ⟨A2, V2, hA2, hmv, hS2⟩
    have hG2 := (hG.moved hmv (by omega) (by omega)).le (m' := 34 * (k + 1)) (c' := 1 + (k + 1)) (v' := k + 1) (by omega) (by omega) (by omega)
    have hM2 := hmv.mg hM hG.ok hG.wg (by omega)
    (conv => whnf)
    refine RngC.mk (by omega) (by omega) ?_
    (conv => whnf)
    refine LoopE.mk ⟨_, [(10, .int .i64 ((k + 1 : Nat) : Int)), (8, _), (2, _), (1, _)], ?_, ⟨rfl, rfl, rfl, rfl, trivial⟩, ⟨k + 1, A2, V2, rfl, rfl, by omega, hA2, hS2, hG2, hM2⟩⟩
    omega
  obtain rfl : k = n1 := by omega
  clear h3 hk hA
  replace hG := hG.le (m' := 10200) (c' := 301) (v' := 300) (by omega) (by omega) (by omega)
  generalize A' = A at hS
  generalize V' = V at hS hG hM
  (conv => whnf)
  refine (wnode_ok n (St.stands (P := []) hS hE2 hG.ok)).mono ?_
  rintro v w2 ⟨rfl, hx2⟩
  replace hS := hS.no hx2
  (conv => whnf)
  refine RngC.mk (by omega) (by omega) ?_
  (conv => whnf)
  refine (wnode_ok (1 - n) (St.stands (P := []) hS hE2 hG.ok)).mono ?_
  rintro v w3 ⟨rfl, hx3⟩
  replace hS := hS.no hx3
  clear hx2 hx3
  by_cases hN0 : (V.side n).node = none
  · rw [upErr_none hn hN0]
    repeat' ((conv => whnf); first | refine RetC.mk ?_ | refine NzC.mk (by decide) ?_ | refine RngC.mk (by omega) (by omega) ?_ | refine IdxC.mk (by omega) (by omega) ?_ | refine brD (fun _ => ?_) (fun _ => ?_) | refine brND (fun _ => ?_) (fun _ => ?_) | refine brN (fun _ => ?_) (fun _ => ?_) | refine brI (fun _ => ?_) (fun _ => ?_))
    exact ⟨rfl, hS.ext⟩
  by_cases hM0 : (V.side (1 - n)).node = none
  · obtain ⟨N, hN⟩ := up_some hN0
    rw [upErr_some hn hN, upErr_none hn2 hM0]
    repeat' ((conv => whnf); first | refine RetC.mk ?_ | refine NzC.mk (by decide) ?_ | refine RngC.mk (by omega) (by omega) ?_ | refine IdxC.mk (by omega) (by omega) ?_ | refine brD (fun _ => ?_) (fun _ => ?_) | refine brND (fun _ => ?_) (fun _ => ?_) | refine brN (fun _ => ?_) (fun _ => ?_) | refine brI (fun _ => ?_) (fun _ => ?_))
    exact ⟨rfl, hS.ext⟩
  obtain ⟨N, hN⟩ := up_some hN0
  obtain ⟨M, hMm⟩ := up_some hM0
  rw [upErr_some hn hN, upErr_some hn2 hMm, if_pos (rfl : (0 : Nat) = 0), if_pos (rfl : (0 : Nat) = 0)]
  clear hN hMm
  (conv => whnf)
  refine loopR tabOk (fun σ w' r => ∃ (k : Nat) (A' : WorldA) (V' : WorldS), σ = [(15, .int .i64 k), (13, .pointer (some ⟨(A.side (1 - n)).A.n, 0, none⟩)), (11, .pointer (some ⟨(A.side n).A.n, 0, none⟩)), (8, .pointer (some ⟨A.w, 0, none⟩)), (2, .int .i64 n)] ∧ r = 200 - k ∧ k ≤ 200 ∧ (A'.w, A'.a, A'.b) = (A.w, A.a, A.b) ∧ St W No w' (worldH A' V' ++ []) ∧ Good (10200 + 34 * k) (301 + k) (300 + k) V' ∧ MG V' ∧ V'.fly.length ≤ 200 - k ∧ (V'.side n).node ≠ none ∧ (V'.side (1 - n)).node ≠ none)
    (σ' := [(15, .int .i64 ((0 : Nat) : Int)), (13, .pointer (some ⟨(A.side (1 - n)).A.n, 0, none⟩)), (11, .pointer (some ⟨(A.side n).A.n, 0, none⟩)), (8, .pointer (some ⟨A.w, 0, none⟩)), (2, .int .i64 n)]) (n := 200) ⟨rfl, rfl, rfl, rfl, rfl, trivial⟩ ⟨0, A, V, rfl, rfl, Nat.zero_le _, rfl, hS, hG, hM, hG.ok.fly, hN0, hM0⟩ ?_
  clear hS hG hM hN0 hM0
  rintro _ w1 r ⟨k, A', V', rfl, rfl, hk, hA, hS, hG, hM, hfl, hN0, hM0⟩
  obtain ⟨e1, e2, e3⟩ := tup3 hA
  (conv => whnf)
  refine brD (fun h3 => ?_) (fun h3 => ?_)
  · (conv => whnf)
    have hc := wdeliverK_ok 0 (St.stands (P := []) hS hE2 hG.ok)
    rw [e1, e2, e3] at hc
    refine hc.mono ?_
    clear hc
    rintro v w2 ⟨rfl, A2, hA2, ht⟩
    replace hS := St.callAt (A := []) (B := []) hS ht
    (conv => whnf)
    refine RngC.mk (by omega) (by omega) ?_
    (conv => whnf)
    refine LoopE.mk ⟨_, [(15, .int .i64 ((k + 1 : Nat) : Int)), (13, _), (11, _), (8, _), (2, _)], ?_, ⟨rfl, rfl, rfl, rfl, rfl, trivial⟩, ⟨k + 1, A2, (V'.deliver 0).2, rfl, rfl, by omega, hA2, hS, (hG.moved (.deliver V' 0) (by omega) (by omega)).le (by omega) (by omega) (by omega), (Moved.deliver V' 0).mg hM hG.ok hG.wg (by omega), by rw [deliver_len]; omega, deliver_up hn hN0, deliver_up hn2 hM0⟩⟩
    omega
  obtain rfl : k = 200 := by omega
  have hfl0 : V'.fly = [] := List.length_eq_zero_iff.1 (by omega)
  obtain ⟨N, hN⟩ := up_some hN0
  obtain ⟨M, hMm⟩ := up_some hM0
  clear h3 hk hfl hN0 hM0
  have hlen : N.tab.cells.length = 32 := ((hG.ok.side hn).node N hN).1.tab.len
  have hS2 := node_of (P := []) hS hn hN
  rw [side_eq hA] at hS2
  (conv => whnf)
  refine (ntable_ok hS2.has hlen).mono ?_
  rintro v w2 ⟨a4, c4, rfl, hx, ho, hfr⟩
  replace hS := hS.made hx ownL_local ho (fun g hg => hfr g (by simpa [ownL, own] using hg))
  replace hS := hS.perm List.perm_append_comm
  replace hS2 := hS2.no hx
  clear hx ho hfr
  (conv => whnf)
  refine hS2.ld 0 rfl rfl ?_
  (conv => whnf)
  refine (role_active (hS2.blk 1 rfl)).mono ?_
  rintro v w3 ⟨rfl, rfl⟩
  clear hS2
  (conv => whnf)
  have hc := psettleK_ok n (St.stands hS hE2 hG.ok) (by omega)
  rw [e1, e2, e3] at hc
  refine hc.mono ?_
  clear hc
  rintro v w3 ⟨rfl, A3, hA3, ht⟩
  replace hS := St.callAt hS ht
  clear ht
  cases he : (V'.settle n 24).1 with
  | succ z =>
    repeat' ((conv => whnf); first | refine RetC.mk ?_ | refine NzC.mk (by decide) ?_ | refine RngC.mk (by omega) (by omega) ?_ | refine IdxC.mk (by omega) (by omega) ?_ | refine brD (fun _ => ?_) (fun _ => ?_) | refine brND (fun _ => ?_) (fun _ => ?_) | refine brN (fun _ => ?_) (fun _ => ?_) | refine brI (fun _ => ?_) (fun _ => ?_))
    all_goals exact ⟨rfl, hS.ext⟩
  | zero =>
    cases ha : N.role.active with
    | false =>
      repeat' ((conv => whnf); first | refine RetC.mk ?_ | refine NzC.mk (by decide) ?_ | refine RngC.mk (by omega) (by omega) ?_ | refine IdxC.mk (by omega) (by omega) ?_ | refine brD (fun _ => ?_) (fun _ => ?_) | refine brND (fun _ => ?_) (fun _ => ?_) | refine brN (fun _ => ?_) (fun _ => ?_) | refine brI (fun _ => ?_) (fun _ => ?_))
      all_goals exact ⟨rfl, hS.ext⟩
    | true =>
      obtain ⟨N', M', hN', hM', hact, hl1, hl2, hfin⟩ := settle_mirror hn hG.ok hG.wg hM (by omega) hfl0 hN hMm ha he
      generalize (V'.settle n 24).2 = U at hS hN' hM'
      have hS2 := node_of hS hn hN'
      rw [side_eq hA3] at hS2
      have hS3 := node_of hS hn2 hM'
      rw [side_eq hA3] at hS3
      (conv => whnf)
      refine hS2.ld 0 rfl rfl ?_
      (conv => whnf)
      refine (role_active (hS2.blk 1 rfl)).mono ?_
      rintro v w4 ⟨rfl, rfl⟩
      rw [hact]
      (conv => whnf)
      refine (ntable_ok hS2.has hl1).mono ?_
      rintro v w4 ⟨a5, c5, rfl, hx, ho, hfr⟩
      replace hS := hS.no hx
      replace hS2 := hS2.no hx
      replace hS3 := hS3.no hx
      clear hx hfr
      (conv => whnf)
      refine (same_ok (ownL_slc (G := fun _ => True) codCell ho (fun _ _ => trivial)) (ownL_slc (G := fun _ => True) codCell (hS.get 0 rfl) (fun _ _ => trivial))).mono ?_
      rintro v w5 ⟨rfl, hx⟩
      replace hS := hS.no hx
      replace hS2 := hS2.no hx
      replace hS3 := hS3.no hx
      clear hx ho
      (conv => whnf)
      refine brND (fun h6 => ?_) (fun h6 => ?_)
      · repeat' ((conv => whnf); first | refine RetC.mk ?_ | refine NzC.mk (by decide) ?_ | refine RngC.mk (by omega) (by omega) ?_ | refine IdxC.mk (by omega) (by omega) ?_ | refine brD (fun _ => ?_) (fun _ => ?_) | refine brND (fun _ => ?_) (fun _ => ?_) | refine brN (fun _ => ?_) (fun _ => ?_) | refine brI (fun _ => ?_) (fun _ => ?_))
        exact ⟨rfl, hS.ext⟩
      (conv => whnf)
      refine (nmirror_ok hS3.has hl2).mono ?_
      rintro v w6 ⟨a6, c6, rfl, hx, ho, hfr⟩
      replace hS := hS.no hx
      replace hS2 := hS2.no hx
      clear hx hfr
      (conv => whnf)
      refine (ntable_ok hS2.has hl1).mono ?_
      rintro v w7 ⟨a7, c7, rfl, hx, ho2, hfr⟩
      replace hS := hS.no hx
      have hom := ownL_slc (G := fun _ => True) codCell ho (fun _ _ => trivial)
      (conv => whnf)
      refine (same_ok (hom.no hx) (ownL_slc (G := fun _ => True) codCell ho2 (fun _ _ => trivial))).mono ?_
      rintro v w8 ⟨rfl, hx8⟩
      rw [decide_eq_true (hfin h6)]
      repeat' ((conv => whnf); first | refine RetC.mk ?_ | refine NzC.mk (by decide) ?_ | refine RngC.mk (by omega) (by omega) ?_ | refine IdxC.mk (by omega) (by omega) ?_ | refine brD (fun _ => ?_) (fun _ => ?_) | refine brND (fun _ => ?_) (fun _ => ?_) | refine brN (fun _ => ?_) (fun _ => ?_) | refine brI (fun _ => ?_) (fun _ => ?_))
      exact ⟨rfl, (hS.no hx8).ext⟩
theorem worldMirrors_walk {E : Nat → Addr} (W : World) (args : List Value) (hE : Errs W E W.heap.size insErrs) (ha : ArgsOk Tryz.prog W [22, 23, 3] args) :
    CallC Tryz.prog 5 args.toArray W fun v w' => v = .bool true ∧ Ext No W w' := by
  obtain ⟨v0, args, rfl, h0, ha⟩ := ha.cons
  obtain ⟨v1, args, rfl, h1, ha⟩ := ha.cons
  obtain ⟨v2, args, rfl, h2, ha⟩ := ha.cons
  obtain rfl := ha.nil
  obtain ⟨a0, n0, c0, xs, rfl, hx, _⟩ := arg_slice (d := 12) (sz := 5) Tryz.underlying22 (by kernel_rfl) (by decide) (dec_ruleW (by decide)) h0
  obtain ⟨a1, n1, c1, ys, rfl, hy, _⟩ := arg_slice (d := 12) (sz := 10) Tryz.underlying23 (by kernel_rfl) (by decide) (dec_step (c := 10) (d := 11) (Nat.le_refl _) rfl rfl) h1
  obtain ⟨n, rfl, _⟩ := arg_int Tryz.underlying3 h2
  exact worldMirrors_ok W hE a0 n0 c0 xs hx a1 n1 c1 ys (hy.imp fun _ h => h) n
end Go.Proofs.YtoaghhcjlfiflaaGreatDoor
