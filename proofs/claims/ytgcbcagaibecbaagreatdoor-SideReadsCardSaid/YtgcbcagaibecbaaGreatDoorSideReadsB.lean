/-
  Texts of this claim, joined: PoolK, PoolL, PoolM, PoolN, PoolO, PoolP, PoolU, PoolV, PoolQ, PoolR, PoolS.
-/
import Derived.Test.YtgcbcagaibecbaaGreatDoorSideReadsA
import Derived.Conc.Holds
import Derived.Conc.CrowdStepC
import Derived.Conc.WgGenN3
set_option linter.unusedSectionVars false
set_option linter.unusedSimpArgs false
set_option linter.unusedVariables false

namespace Go.Proofs.YtgcbcagaibecbaaGreatDoor.Pool
set_option maxRecDepth 20000
open Go Go.Conc Gap
open Go.ConcN (upd upd_same upd_ne WgLive PayAt RW sumTo sumTo_upd)
open Go.ConcR (WgAt stA smA KK Payload DC0 mk)

section
variable [Payload] {X : Shop} {zs : Value} {SEL : Nat → (Nat → Bool) → (Nat → Prop) → Goroutine → World → Prop} {Shun : Loc → Prop} {Sh K : Nat → Prop} {ow : Option Obj} {kz : Nat → Option Obj}

def PoolEnd (X : Shop) (SEL : Nat → (Nat → Bool) → (Nat → Prop) → Goroutine → World → Prop) (Shun : Loc → Prop) (Sh K : Nat → Prop) (ow : Option Obj) (kz : Nat → Option Obj) (n : Nat) (m' : Machine) (t' : Trace) : Prop :=
  ∃ gs' W' sl' O' a' done', m' = crowd gs' W' sl' ∧ gs'.size = n ∧ Idle X 0 Shun Sh K gs' W' t' O' ∧ Chan X.cb W' ∧ W'.heap[X.Wg]? = ow ∧ (∀ b, X.Z b → W'.heap[b]? = kz b) ∧ gs'[0]? = some a' ∧ (∀ W1, Rely (O' 0) X.Z W' W1 → SEL X.many done' (O' 0) a' W1) ∧ ∀ i, i < X.many → done' i = true

theorem pool_aux (ok : X.Ok) (so : Starter X zs SEL) (pl : Places X Sh) (hlv : LiveO X.ty ow) (hex : ∃ j, K j) (hnb : ∀ next done O g W, SEL next done O g W → g.status ≠ .blocked) : ∀ (Φ next : Nat) (done : Nat → Bool), (X.many - next) + left X done = Φ → ∀ (n : Nat) (ρ : Nat → Rk) (tk : Nat → Option Nat) (gs : Array Goroutine) (W : World) (t : Trace) (O : Nat → Nat → Prop) (sl : Option (Nat × Nat)), gs.size = n → Pool X zs SEL Shun Sh K ow kz next done tk ρ gs W t O →
    Comes X.P (crowd gs W sl) t (PoolEnd X SEL Shun Sh K ow kz n) := by
  intro Φ
  induction Φ using Nat.strongRecOn with
  | _ Φ ihΦ =>
    intro next done hΦ n ρ
    induction ρ using (Dec.wf n).induction with
    | _ ρ ih =>
      intro tk gs W t O sl hn h
      obtain ⟨j0, hj0⟩ := hex
      have hsize : 0 < gs.size := by have := h.kin j0 hj0; omega
      obtain ⟨a, h0⟩ : ∃ a, gs[0]? = some a := ⟨gs[0], Array.getElem?_eq_getElem hsize⟩
      obtain ⟨hd, hss⟩ := (h.core.sit 0 a h0).1 rfl
      have turn : ∀ {gs1 : Array Goroutine} {W1 : World} {sl1 : Option (Nat × Nat)} {i : Nat}, (∃ m' ops, runT X.P (crowd gs1 W1 sl1) i = (.next m', ops) ∧ Turn X zs SEL Shun Sh K ow kz next done ρ gs.size t m' ops) → stepT X.P (crowd gs W sl) = runT X.P (crowd gs1 W1 sl1) i → Comes X.P (crowd gs W sl) t (PoolEnd X SEL Shun Sh K ow kz n) := by
        rintro gs1 W1 sl1 i ⟨m', ops, hr, next', done', ρ', tk', gs', W', O', sl', rfl, hs', hP, hdec⟩ hst
        refine .step (hst.trans hr) ?_
        rcases hdec with ⟨rfl, rfl, hdec⟩ | hdec
        · exact ih ρ' (by rw [← hn]; exact hdec) tk' gs' W' _ O' sl' (by omega) hP
        · exact ihΦ _ (by omega) next' done' rfl n ρ' tk' gs' W' _ O' sl' (by omega) hP
      have rest : (a.status = .running ∧ (((∀ W1, Rely (O 0) X.Z W W1 → SEL next done (O 0) a W1) ∧ (next < X.many ∨ ∃ i, i < next ∧ done i = false) ∧ ∃ r', Rk.Sub r' (ρ 0)) ∨ ∀ W1, Rely (O 0) X.Z W W1 → ∃ g' W' es r', stepG X.P true a W1 = .go g' W' es ∧ Guar (O 0) X.Z W1 W' es ∧ Rk.Sub r'.up (ρ 0) ∧ RWay X.P true X.Z (SEL next done) r' (grow (O 0) W1 W') g' W')) ∨
          (∃ g0, a = parked g0 (selc X zs next) .select ∧ (∀ W1, Rely (O 0) X.Z W W1 → SEL next done (O 0) g0 W1) ∧ (next < X.many ∨ ∃ i, i < next ∧ done i = false)) → Comes X.P (crowd gs W sl) t (PoolEnd X SEL Shun Sh K ow kz n) := fun hv => by
        have haw : ∀ g ∈ gs, awake g := by
          intro g hg
          obtain ⟨i, hi, rfl⟩ := Array.mem_iff_getElem.1 hg
          by_cases hi0 : i = 0
          · subst hi0
            have : gs[0] = a := by simpa [Array.getElem?_eq_getElem hi] using h0
            rw [this]
            rcases hv with ⟨e, _⟩ | ⟨g0, e, _⟩
            · exact awake_of (.inl e)
            · exact awake_of (.inr (.inl (by rw [e]; rfl)))
          · obtain ⟨st, hw, _⟩ := (h.core.sit i _ (Array.getElem?_eq_getElem hi)).2 hi0
            exact hw.awake ok
        have hsome : ∃ (i : Nat) (g : Goroutine), gs[i]? = some g ∧ g.status = .running := by
          rcases hv with ⟨e, _⟩ | ⟨g0, rfl, hsel, hgo⟩
          · exact ⟨0, a, h0, e⟩
          · have one : ∀ j, K j → (next < X.many ∨ tk j ≠ none) → ∃ (i : Nat) (g : Goroutine), gs[i]? = some g ∧ g.status = .running := fun j hj hc => by
              have hlt := (h.kin j hj).2
              have hj0 : j ≠ 0 := by have := (h.kin j hj).1; omega
              have hx : gs[j]? = some gs[j] := Array.getElem?_eq_getElem hlt
              obtain ⟨st, hw, hst⟩ := (h.core.sit j _ hx).2 hj0
              rcases hst with ⟨_, hn⟩ | ⟨rfl, _⟩
              · exact absurd hj hn
              · have hpk : gs[j].status = .blocked → False := fun hb => by
                  have := h.park _ h0 rfl j _ hj0 hx hb
                  rcases hc with hc | hc
                  · omega
                  · exact hc this.2
                rcases (hw.nine ok).2 with e | ⟨_, C2, g2, e, _⟩ | ⟨i2, C2, v2, g2, _, e, _⟩
                · exact ⟨j, _, hx, e⟩
                · exact (hpk (by rw [e]; rfl)).elim
                · exact (hpk (by rw [e]; rfl)).elim
            rcases hgo with hgo | ⟨i, hi, hdi⟩
            · exact one j0 hj0 (.inl hgo)
            · obtain ⟨j, hj⟩ := h.tall i hi hdi
              exact one j (h.tin j i hj).1 (.inr (by rw [hj]; simp))
        obtain ⟨i, g, d, sl', hi, hg, hst⟩ := crowd_pick (P := X.P) (w := W) (sl := sl) haw hsome
        have hd' := h.at d
        by_cases hi0 : i = 0
        · subst hi0
          rw [h0] at hi
          cases hi
          rcases hv with ⟨hrun, hv⟩ | ⟨g0, rfl, _⟩
          · refine turn (hd'.starter ok so pl hlv h0 hrun ?_) hst
            rcases hv with ⟨hsel, hgo, hr⟩ | hv
            · exact .inl ⟨fun W1 h1 => hsel W1 ((rely_at W d).trans h1), hgo, hr⟩
            · obtain ⟨g', W', es, r', e1, e2, e3, e4⟩ := hv (W.at d) (rely_at W d)
              refine .inr ⟨g', W', es, r', e1, e2, e3, e4, ?_⟩
              rcases e4.cases with hk | ⟨hr, _⟩
              · exact hnb _ _ _ _ _ (hk W' (.refl W'))
              · rw [hr]; simp
          · cases hg
        · refine turn (hd'.worker ok so pl hlv h0 ?_ hi0 hi hg) hst
          rcases hv with ⟨hrun, _⟩ | ⟨g0, e, hsel, hgo⟩
          · exact .inl hrun
          · exact .inr ⟨g0, e, fun W1 h1 => hsel W1 ((rely_at W d).trans h1), hgo⟩
      generalize hρ : ρ 0 = r0 at hss
      cases hss with
      | @run r _ _ _ hr =>
        rcases hr.cases with hk | ⟨hrun, hk⟩
        · by_cases hc : next < X.many ∨ ∃ i, i < next ∧ done i = false
          · obtain ⟨r', hr'⟩ := r.up_pos
            exact rest (.inl ⟨((so.sel _ _ _ _ _ (hk W (.refl W))).2 hc).1, .inl ⟨hk, hc, r', by rw [hρ]; exact hr'⟩⟩)
          · have hle := (so.sel _ _ _ _ _ (hk W (.refl W))).1
            have hnx : next = X.many := by
              have : ¬ next < X.many := fun x => hc (.inl x)
              omega
            subst hnx
            have hall : ∀ i, i < X.many → done i = true := fun i hi => by
              cases hdi : done i with
              | true => rfl
              | false => exact absurd (.inr ⟨i, hi, hdi⟩) hc
            have hnone : ∀ j, tk j = none := fun j => by
              cases hj : tk j with
              | none => rfl
              | some i =>
                have := h.tin j i hj
                exact absurd (.inr ⟨i, this.2⟩) hc
            refine .done ⟨gs, W, sl, O, a, done, rfl, hn, ⟨⟨fun j x hj => ⟨fun e => ((h.core.sit j x hj).1 e).1, fun e => ?_⟩, h.core.above, h.core.tok, h.core.apart⟩, fun _ => ⟨pl.ct, pl.wg⟩, fun _ => h.cht, h.kin⟩, h.chb, h.wgo, h.zk, h0, hk, hall⟩
            obtain ⟨st, hw, hc2⟩ := (h.core.sit j x hj).2 e
            rw [hnone j] at hw
            exact ⟨_, st, hw, hc2⟩
        · exact rest (.inl ⟨hrun, .inr fun W1 h1 => let ⟨g', W', es, r', e1, e2, e3, e4⟩ := hk W1 h1; ⟨g', W', es, r', e1, e2, by rw [hρ]; exact Rk.up_sub e3, e4⟩⟩)
      | park hsel hcm hgo => exact rest (.inr ⟨_, rfl, hsel, hgo⟩)

theorem pool (ok : X.Ok) (so : Starter X zs SEL) (pl : Places X Sh) (hex : ∃ j, K j) (hnb : ∀ next done O g W, SEL next done O g W → g.status ≠ .blocked) {gs : Array Goroutine} {W : World} {t : Trace} {O : Nat → Nat → Prop} {sl : Option (Nat × Nat)} {a : Goroutine}
    (hI : Idle X 0 Shun Sh K gs W t O) (hcb : Chan X.cb W) (hlv : WgLive X.ty X.Wg W) (h0 : gs[0]? = some a) (hw : Way0 X.P true X.Z (SEL 0 fun _ => false) (O 0) a W) : Comes X.P (crowd gs W sl) t (PoolEnd X SEL Shun Sh K W.heap[X.Wg]? (fun b => W.heap[b]?) gs.size) := by
  obtain ⟨r, hr⟩ := ranked hw
  obtain ⟨ρ, hρ⟩ := choose_ranks hI.core
  have hnb0 : a.status ≠ .blocked := by
    rcases hr.cases with hk | ⟨e, _⟩
    · exact hnb _ _ _ _ _ (hk W (.refl W))
    · rw [e]; simp
  refine pool_aux (zs := zs) ok so pl hlv hex hnb _ 0 (fun _ => false) rfl gs.size (upd ρ 0 r.up) (fun _ => none) gs W t O sl rfl ⟨⟨fun j x hj => ⟨fun e => ?_, fun e => ?_⟩, hI.core.above, hI.core.tok, hI.core.apart⟩, hI.chan hex, hcb, hI.kin, fun j i h => (by cases h), fun j j' i h => (by cases h), fun i h => (by cases h), fun i h => by omega, fun a' ha hb => ?_, rfl, fun _ _ => rfl⟩
  · subst e
    rw [h0] at hj
    cases hj
    rw [upd_same]
    exact ⟨(hρ.sit 0 a h0).1 rfl, .run hr⟩
  · obtain ⟨st, hw, hc⟩ := (hρ.sit j x hj).2 e
    exact ⟨st, by rw [upd_ne _ _ e]; exact hw, hc⟩
  · rw [h0] at ha
    cases ha
    exact absurd hb hnb0
end
end Go.Proofs.YtgcbcagaibecbaaGreatDoor.Pool

namespace Go.Proofs.YtgcbcagaibecbaaGreatDoor.Pool
set_option maxRecDepth 20000
open Go Go.Conc Gap
open Go.ConcN (upd upd_same upd_ne WgLive PayAt RW AtK1 AtD1 AtD2 AtD3 AtD4 sumTo sumTo_upd le_sumTo)
open Go.ConcR (WgAt stA smA KK Payload DC0 mk rd wr)

section
variable [Payload] (X : Shop)
def RL (w w1 : World) : Prop := WgLive X.ty X.Wg w → WgLive X.ty X.Wg w1

variable (Anch : Goroutine → World → Prop) (Fin : Goroutine → Prop)
def SAcq (g : Goroutine) (w : World) : Prop := g.status = .running ∧ ∃ g', stepG X.P true g w = .go g' w #[mk (.acquire (stA X.Wg))] ∧ Fin g'
def SKe (g : Goroutine) (w : World) : Prop := g.status = .running ∧ ∃ g', stepG X.P true g w = .go g' w #[mk .enable] ∧ ∃ m, Goes X.P true (RL X) DC0 (SAcq X Fin) m g' w
def S4 (g : Goroutine) (w : World) : Prop := g.status = .running ∧ (WgAt X.ty X.Wg w 0 0 → ∃ g', stepG X.P true g w = .go g' w #[rd (stA X.Wg)] ∧ ∃ m, Goes X.P true (RL X) DC0 (SKe X Fin) m g' w)
def S3 (g : Goroutine) (w : World) : Prop := g.status = .running ∧ g.offers = none ∧
  ((∃ st, WgAt X.ty X.Wg w st 0) → stepG X.P true g w = .go { g with status := .blocked } w #[]) ∧
  (WgAt X.ty X.Wg w 0 1 → ∃ g', stepG X.P true g w = .go g' (w.setCell (smA X.Wg) (.int .u32 0)) (semEvents (smA X.Wg)) ∧ ∃ m, Goes X.P true (RL X) DC0 (S4 X Fin) m g' (w.setCell (smA X.Wg) (.int .u32 0)))
def SW (g : Goroutine) (w : World) : Prop := g.status = .running ∧ ∃ g', stepG X.P true g w = .go g' w #[mk (.write (smA X.Wg))] ∧ ∃ m, Goes X.P true (RL X) DC0 (S3 X Fin) m g' w
def S2 (vs : Nat) (g : Goroutine) (w : World) : Prop := g.status = .running ∧ ∀ v : Nat, v < 2147483648 → WgAt X.ty X.Wg w (v * KK) 0 →
  (v = vs → ∃ g', stepG X.P true g w = .go g' (w.setCell (stA X.Wg) (.int .u64 (v * KK + 1))) #[rd (stA X.Wg), wr (stA X.Wg)] ∧ ∃ m, Goes X.P true (RL X) DC0 (SW X Fin) m g' (w.setCell (stA X.Wg) (.int .u64 (v * KK + 1)))) ∧
  (v ≠ vs → ∃ g', stepG X.P true g w = .go g' w #[rd (stA X.Wg)] ∧ ∃ m, Goes X.P true (RL X) DC0 Anch m g' w)
def S1 (g : Goroutine) (w : World) : Prop := g.status = .running ∧ ∀ v : Nat, v < 2147483648 → WgAt X.ty X.Wg w (v * KK) 0 → ∃ g', stepG X.P true g w = .go g' w #[rd (stA X.Wg)] ∧
  (v = 0 → ∃ m, Goes X.P true (RL X) DC0 (SKe X Fin) m g' w) ∧ (v ≠ 0 → ∃ m, Goes X.P true (RL X) DC0 (S2 X Anch Fin v) m g' w)
def SKd (g : Goroutine) (w : World) : Prop := g.status = .running ∧ ∃ g', stepG X.P true g w = .go g' w #[mk .disable] ∧ ∃ m, Goes X.P true (RL X) DC0 Anch m g' w

inductive Tg where
  | kd | an | w1 | w2 (vs : Nat) | sw | w3 | bk | w4 | ke | aq
def Tg.ph (n v : Nat) : Tg → Nat
  | .kd => 8 * n + 8
  | .an => 8 * v + 7
  | .w1 => 8 * v + 6
  | .w2 vs => 8 * vs + 5
  | .sw => 5
  | .w3 => 4
  | .bk => 4
  | .w4 => 3
  | .ke => 2
  | .aq => 1
def Tg.isOpen : Tg → Prop
  | .kd | .an | .w1 | .w2 _ => True
  | _ => False
def Tg.isSem : Tg → Prop
  | .sw | .w3 | .bk => True
  | _ => False
def Tg.isFin : Tg → Prop
  | .w4 | .ke | .aq => True
  | _ => False

inductive CT : Tg → Nat → Rk → Goroutine → World → Prop
  | kd {m : Nat} {g : Goroutine} {w : World} : Goes X.P true (RL X) DC0 (SKd X Anch) m g w → CT .kd 0 (.nat m) g w
  | an {m : Nat} {g : Goroutine} {w : World} : Goes X.P true (RL X) DC0 Anch m g w → CT .an 1 (.nat m) g w
  | w1 {m : Nat} {g : Goroutine} {w : World} : Goes X.P true (RL X) DC0 (S1 X Anch Fin) m g w → CT .w1 1 (.nat m) g w
  | w2 {vs m : Nat} {g : Goroutine} {w : World} : Goes X.P true (RL X) DC0 (S2 X Anch Fin vs) m g w → CT (.w2 vs) 1 (.nat m) g w
  | sw {m : Nat} {g : Goroutine} {w : World} : Goes X.P true (RL X) DC0 (SW X Fin) m g w → CT .sw 1 (.nat m) g w
  | w3 {m : Nat} {g : Goroutine} {w : World} : Goes X.P true (RL X) DC0 (S3 X Fin) m g w → CT .w3 1 (.nat (m + 1)) g w
  | bk {r : Rk} {g : Goroutine} {w : World} : (∀ w1, RL X w w1 → S3 X Fin g w1) → CT .bk 1 r { g with status := .blocked } w
  | w4 {m : Nat} {g : Goroutine} {w : World} : Goes X.P true (RL X) DC0 (S4 X Fin) m g w → CT .w4 1 (.nat m) g w
  | ke {m : Nat} {g : Goroutine} {w : World} : Goes X.P true (RL X) DC0 (SKe X Fin) m g w → CT .ke 1 (.nat m) g w
  | aq {m : Nat} {g : Goroutine} {w : World} : Goes X.P true (RL X) DC0 (SAcq X Fin) m g w → CT .aq 0 (.nat m) g w
end

def Vc (N : Nat) (S : Nat → Nat) : Nat := sumTo N fun i => if 5 ≤ S i then 1 else 0
def OpenS (N : Nat) (S : Nat → Nat) : Prop := ∀ i, i < N → S i = 9 ∨ S i = 7 ∨ S i = 6 ∨ S i = 5 ∨ S i = 1
def AllOne (N : Nat) (S : Nat → Nat) : Prop := ∀ i, i < N → S i = 1
inductive Md (N : Nat) (S : Nat → Nat) : Tg → Int → Int → Prop
  | opn {tag : Tg} : tag.isOpen → OpenS N S → (∀ vs, tag = .w2 vs → Vc N S ≤ vs ∧ 1 ≤ vs) → Md N S tag ((Vc N S : Nat) * KK) 0
  | reg {tag : Tg} : tag.isSem → OpenS N S → 1 ≤ Vc N S → Md N S tag ((Vc N S : Nat) * KK + 1) 0
  | last {tag : Tg} (L : Nat) : tag.isSem → L < N → (S L = 4 ∨ S L = 3 ∨ S L = 2) → (∀ i, i < N → i ≠ L → S i = 1) → Md N S tag (if S L = 2 then 0 else 1) 0
  | sema {tag : Tg} : tag.isSem → tag ≠ .bk → AllOne N S → Md N S tag 0 1
  | fin {tag : Tg} : tag.isFin → AllOne N S → Md N S tag 0 0

section
variable {N i : Nat} {S : Nat → Nat} {tag tag' : Tg} {st sm : Int}
theorem Vc_upd (hi : i < N) (x : Nat) : Vc N (upd S i x) + (if 5 ≤ S i then 1 else 0) = Vc N S + (if 5 ≤ x then 1 else 0) := sumTo_upd S x (fun a => if 5 ≤ a then 1 else 0) hi
theorem sum_upd (hi : i < N) (x : Nat) : sumTo N (upd S i x) + S i = sumTo N S + x := sumTo_upd S x (fun a => a) hi
theorem Vc_le (N : Nat) (S : Nat → Nat) : Vc N S ≤ N := by
  have := Go.ConcN.sumTo_le (f := fun i => if 5 ≤ S i then 1 else 0) (c := 1) (j := N) fun i _ => by split <;> omega
  unfold Vc
  omega
theorem Vc_pos (hi : i < N) (h : 5 ≤ S i) : 1 ≤ Vc N S := by
  have := le_sumTo (f := fun i => if 5 ≤ S i then 1 else 0) hi
  simp only [h, if_true] at this
  exact this
theorem allOne_of (h : OpenS N S) (h0 : Vc N S = 0) : AllOne N S := fun i hi => by
  rcases h i hi with e | e | e | e | e
  · have := Vc_pos (S := S) hi (by omega); omega
  · have := Vc_pos (S := S) hi (by omega); omega
  · have := Vc_pos (S := S) hi (by omega); omega
  · have := Vc_pos (S := S) hi (by omega); omega
  · exact e
theorem OpenS.upd (h : OpenS N S) {x : Nat} (hx : x = 9 ∨ x = 7 ∨ x = 6 ∨ x = 5 ∨ x = 1) : OpenS N (upd S i x) := fun k hk => by
  by_cases e : k = i
  · subst e; rw [upd_same]; exact hx
  · rw [upd_ne _ _ e]; exact h k hk
theorem ph_mono (n : Nat) {v v' : Nat} (h : v' ≤ v) (tag : Tg) : tag.ph n v' ≤ tag.ph n v := by cases tag <;> simp only [Tg.ph] <;> omega
theorem Md.wake (h : Md N S .bk st sm) : Md N S .w3 st sm := by
  generalize hb : Tg.bk = tag at h
  cases h with
  | opn h => subst hb; exact h.elim
  | reg _ h2 h3 => exact .reg trivial h2 h3
  | last L _ h2 h3 h4 => exact .last L trivial h2 h3 h4
  | sema _ h _ => exact absurd hb.symm h
  | fin h => subst hb; exact h.elim
theorem Md.counted (h : Md N S tag st sm) (hi : i < N) (h5 : 5 ≤ S i) {x : Nat} (hx : x = 7 ∨ x = 6 ∨ x = 5) : Md N (upd S i x) tag st sm := by
  have hv := Vc_upd (S := S) hi x
  rw [if_pos h5, if_pos (by omega)] at hv
  have hv : Vc N (upd S i x) = Vc N S := by omega
  cases h with
  | opn h1 h2 h3 => rw [← hv]; exact .opn h1 (h2.upd (by omega)) (by rw [hv]; exact h3)
  | reg h1 h2 h3 => rw [← hv]; exact .reg h1 (h2.upd (by omega)) (by omega)
  | last L h1 h2 h3 h4 =>
    exfalso
    by_cases e : i = L
    · subst e; omega
    · have := h4 i hi e; omega
  | sema _ _ h => have := h i hi; omega
  | fin _ h => have := h i hi; omega
theorem Md.seen (h : Md N S tag st sm) (hi : i < N) (h5 : 5 ≤ S i) : OpenS N S ∧ sm = 0 ∧ 1 ≤ Vc N S ∧ ((tag.isOpen ∧ st = (Vc N S : Nat) * KK ∧ ∀ vs, tag = .w2 vs → Vc N S ≤ vs ∧ 1 ≤ vs) ∨ (tag.isSem ∧ st = (Vc N S : Nat) * KK + 1)) := by
  have hp := Vc_pos (S := S) hi h5
  cases h with
  | opn h1 h2 h3 => exact ⟨h2, rfl, hp, .inl ⟨h1, rfl, h3⟩⟩
  | reg h1 h2 h3 => exact ⟨h2, rfl, hp, .inr ⟨h1, rfl⟩⟩
  | last L h1 h2 h3 h4 =>
    exfalso
    by_cases e : i = L
    · subst e; omega
    · have := h4 i hi e; omega
  | sema _ _ h => have := h i hi; omega
  | fin _ h => have := h i hi; omega
theorem Md.lastOf (h : Md N S tag st sm) (hi : i < N) (h4 : S i = 4 ∨ S i = 3 ∨ S i = 2) : tag.isSem ∧ sm = 0 ∧ st = (if S i = 2 then 0 else 1) ∧ ∀ k, k < N → k ≠ i → S k = 1 := by
  cases h with
  | opn h1 h2 h3 => have := h2 i hi; omega
  | reg h1 h2 h3 => have := h2 i hi; omega
  | last L h1 h2 h3 h5 =>
    by_cases e : i = L
    · subst e; exact ⟨h1, rfl, rfl, h5⟩
    · have := h5 i hi e; omega
  | sema _ _ h => have := h i hi; omega
  | fin _ h => have := h i hi; omega
end

section
variable [Payload] {X : Shop} {Anch : Goroutine → World → Prop} {Fin : Goroutine → Prop} {tag : Tg} {d : Nat} {r : Rk} {g g' a : Goroutine} {W W' : World}
omit [Payload] in
theorem rl_trans (a b c : World) (h : RL X a b) (k : RL X b c) : RL X a c := k ∘ h
omit [Payload] in
theorem rl_refl (w : World) : RL X w w := id
theorem CT.run (hA : ∀ g w, Anch g w → g.status = .running) (h : CT X Anch Fin tag d r g W) (ht : tag ≠ .bk) : g.status = .running := by
  cases h with
  | kd h => exact Goes.running (fun _ _ h => h.1) W (rl_refl W) h
  | an h => exact Goes.running hA W (rl_refl W) h
  | w1 h => exact Goes.running (fun _ _ h => h.1) W (rl_refl W) h
  | w2 h => exact Goes.running (fun _ _ h => h.1) W (rl_refl W) h
  | sw h => exact Goes.running (fun _ _ h => h.1) W (rl_refl W) h
  | w3 h => exact Goes.running (fun _ _ h => h.1) W (rl_refl W) h
  | bk h => exact absurd rfl ht
  | w4 h => exact Goes.running (fun _ _ h => h.1) W (rl_refl W) h
  | ke h => exact Goes.running (fun _ _ h => h.1) W (rl_refl W) h
  | aq h => exact Goes.running (fun _ _ h => h.1) W (rl_refl W) h
theorem CT.rely (h : CT X Anch Fin tag d r g W) (hr : RL X W W') : CT X Anch Fin tag d r g W' := by
  cases h with
  | kd h => exact .kd (Goes.rely rl_trans h hr)
  | an h => exact .an (Goes.rely rl_trans h hr)
  | w1 h => exact .w1 (Goes.rely rl_trans h hr)
  | w2 h => exact .w2 (Goes.rely rl_trans h hr)
  | sw h => exact .sw (Goes.rely rl_trans h hr)
  | w3 h => exact .w3 (Goes.rely rl_trans h hr)
  | bk h => exact .bk fun w2 h2 => h w2 (rl_trans _ _ _ hr h2)
  | w4 h => exact .w4 (Goes.rely rl_trans h hr)
  | ke h => exact .ke (Goes.rely rl_trans h hr)
  | aq h => exact .aq (Goes.rely rl_trans h hr)
theorem CT.status (hA : ∀ g w, Anch g w → g.status = .running) (h : CT X Anch Fin tag d r g W) : g.status = .running ∨ (tag = .bk ∧ g.status = .blocked ∧ g.offers = none) := by
  by_cases ht : tag = .bk
  · subst ht
    generalize htg : Tg.bk = tag at h
    cases h with
    | bk h => exact .inr ⟨rfl, rfl, (h W (rl_refl W)).2.1⟩
    | _ => cases htg
  · exact .inl (h.run hA ht)
theorem CT.other (hA : ∀ g w, Anch g w → g.status = .running) (h : CT X Anch Fin tag d r g W) (hr : RL X W W') (a a' : Goroutine) : ∃ tag' r', CT X Anch Fin tag' d r' (Go.Conc.woken X.P a a' W' g) W' ∧ (tag' = tag ∨ (tag = .bk ∧ tag' = .w3)) ∧ (mayWake X.P a = true → a'.status ≠ .blocked → a'.status ≠ .waiting → tag' ≠ .bk) := by
  by_cases ht : tag = .bk
  · subst ht
    generalize htg : Tg.bk = tag at h
    cases h with
    | @bk r g0 w h =>
      unfold Go.Conc.woken
      split
      · rename_i hc
        have ho : g0.offers = none := (h W (rl_refl W)).2.1
        have e : ({ g0 with status := .blocked } : Goroutine).again W' = g0 := by
          have := (h W (rl_refl W)).1
          simp [Goroutine.again, ho]
          rw [← this, ← ho]
        rw [e]
        exact ⟨.w3, .nat 1, .w3 (m := 0) fun w1 h1 => h w1 (rl_trans _ _ _ hr h1), .inr ⟨rfl, rfl⟩, fun _ _ _ => by simp⟩
      · rename_i hc
        refine ⟨.bk, r, .bk fun w2 h2 => h w2 (rl_trans _ _ _ hr h2), .inl rfl, fun h1 h2 h3 => absurd ?_ hc⟩
        simp [h1, h2, h3]
    | _ => cases htg
  · have hrun := h.run hA ht
    rw [woken_run hrun]
    exact ⟨tag, r, h.rely hr, .inl rfl, fun _ _ _ => ht⟩
end
end Go.Proofs.YtgcbcagaibecbaaGreatDoor.Pool

namespace Go.Proofs.YtgcbcagaibecbaaGreatDoor.Pool
set_option maxRecDepth 20000
open Go Go.Conc Gap
open Go.ConcN (upd upd_same upd_ne WgLive PayAt RW AtK1 AtD1 AtD2 AtD3 AtD4 sumTo sumTo_upd le_sumTo)
open Go.ConcR (WgAt stA smA KK Payload DC0 mk rd wr)

section
variable [Payload] (X : Shop) (Anch : Goroutine → World → Prop) (Fin : Goroutine → Prop)
def CSit (tag : Tg) (S : Nat → Nat) (ρ : Nat → Rk) (r0 : Rk) (j d : Nat) (Oj : Nat → Prop) (x : Goroutine) (W : World) : Prop := (j = 0 → CT X Anch Fin tag d r0 x W) ∧ (j ≠ 0 → WS X (S j) none (ρ j) d Oj x W)

structure Wt (Shun : Loc → Prop) (Sh K : Nat → Prop) (W0 : World) (tag : Tg) (S : Nat → Nat) (ρ : Nat → Rk) (r0 : Rk) (gs : Array Goroutine) (W : World) (t : Trace) (O : Nat → Nat → Prop) : Prop where
  core : Core Shun Sh X.Z K (CSit X Anch Fin tag S ρ r0) gs W t O
  kin : ∀ j, K j → 0 < j ∧ j < gs.size
  shut : ∃ m m' tm, W.heap[X.ct]? = some (.chan 0 #[] true m m' tm)
  md : ∃ st sm, WgAt X.ty X.Wg W st sm ∧ Md gs.size S tag st sm
  gone : ∀ j, K j → S j ≤ 6 → ∃ r, Gone (stA X.Wg) t j r
  other : ∀ j, ¬ K j → S j = 1
  nb : ∀ j x, j ≠ 0 → gs[j]? = some x → x.status ≠ .blocked
  know : Rely (O 0) X.Z W0 W

def Phi (n : Nat) (tag : Tg) (S : Nat → Nat) : Nat := tag.ph n (Vc n S) + sumTo n S
def TurnC (Shun : Loc → Prop) (Sh K : Nat → Prop) (W0 : World) (tag : Tg) (S : Nat → Nat) (ρ : Nat → Rk) (r0 : Rk) (n : Nat) (t : Trace) (O : Nat → Nat → Prop) (m' : Machine) (ops : Trace) : Prop :=
  ∃ tag' S' ρ' r0' gs' W' sl' O', m' = crowd gs' W' sl' ∧ gs'.size = n ∧ O' 0 = O 0 ∧ Wt X Anch Fin Shun Sh K W0 tag' S' ρ' r0' gs' W' (t ++ ops) O' ∧ (Phi n tag' S' < Phi n tag S ∨ (Phi n tag' S' = Phi n tag S ∧ (Dec n ρ' ρ ∨ (ρ' = ρ ∧ Rk.Sub r0' r0))))
end

section
variable [Payload] {X : Shop} {Anch : Goroutine → World → Prop} {Fin : Goroutine → Prop} {Shun : Loc → Prop} {Sh K : Nat → Prop} {W0 : World} {tag : Tg} {S : Nat → Nat} {ρ : Nat → Rk} {r0 : Rk} {gs : Array Goroutine} {W W' : World} {t : Trace} {O : Nat → Nat → Prop}
  {sl : Option (Nat × Nat)} {i x : Nat} {g g' : Goroutine} {es : Array Event} {r' : Rk}

theorem Wt.at (h : Wt X Anch Fin Shun Sh K W0 tag S ρ r0 gs W t O) (d : Nat) : Wt X Anch Fin Shun Sh K W0 tag S ρ r0 gs (W.at d) t O :=
  ⟨h.core.at d fun _ _ _ hs => ⟨fun e => (hs.1 e).rely fun x => x, fun e => (hs.2 e).rely fun _ => .at W d⟩, h.kin, h.shut, h.md, h.gone, h.other, h.nb, h.know.trans (rely_at W d)⟩

theorem ph_wake {tag tag' : Tg} (n v : Nat) (h : tag' = tag ∨ (tag = .bk ∧ tag' = .w3)) : tag'.ph n v = tag.ph n v := by
  rcases h with rfl | ⟨rfl, rfl⟩ <;> rfl

theorem Phi_fall {n : Nat} {tag tag' : Tg} (hi : i < n) (h : tag' = tag ∨ (tag = .bk ∧ tag' = .w3)) (hx : x < S i ∨ (x = S i ∧ Rk.Sub r' (ρ i))) : Phi n tag' (upd S i x) < Phi n tag S ∨ (Phi n tag' (upd S i x) = Phi n tag S ∧ Dec n (upd ρ i r') ρ) := by
  have h1 := sum_upd (S := S) hi x
  have h2 := Vc_upd (S := S) hi x
  unfold Phi
  rw [ph_wake n _ h]
  rcases hx with hx | ⟨rfl, hs⟩
  · have hv : Vc n (upd S i x) ≤ Vc n S := by
      split at h2 <;> split at h2 <;> omega
    have := ph_mono n hv tag
    exact .inl (by omega)
  · have e : upd S i (S i) = S := upd_self S i
    rw [e]
    exact .inr ⟨rfl, .of hi hs⟩

theorem Wt.sleeps (ok : X.Ok) (h : Wt X Anch Fin Shun Sh K W0 tag S ρ r0 gs W t O) {j : Nat} {y : Goroutine} (hj : j ≠ 0) (hy : gs[j]? = some y) (a a' : Goroutine) (w : World) : Go.Conc.woken X.P a a' w y = y := by
  refine woken_id (again_running _ ?_)
  rcases ((h.core.sit j y hy).2 hj).status ok with e | e | ⟨g0, cs, sh, e, _⟩
  · exact .inl e
  · exact .inr e
  · exact absurd (by rw [e]; rfl) (h.nb j y hj hy)

theorem Wt.work (ok : X.Ok) (hA : ∀ g w, Anch g w → g.status = .running) (h : Wt X Anch Fin Shun Sh K W0 tag S ρ r0 gs W t O) (hi0 : i ≠ 0) (hi : gs[i]? = some g) (hst : stepG X.P false g W = .go g' W' es) (hg : (K i ∧ Fine Sh X.Z (O i) (O i) i W W' es) ∨ (W' = W ∧ ∀ e ∈ es, e.mute = true))
    (hshut : W'.heap[X.ct]? = W.heap[X.ct]?) (hws : WS X x none r' (deafBehind (Deaf t i) es) (O i) g' W') (hwg : ∃ st sm, WgAt X.ty X.Wg W' st sm ∧ ∀ tag', (tag' = tag ∨ (tag = .bk ∧ tag' = .w3)) → (mayWake X.P g = true → g'.status ≠ .blocked → g'.status ≠ .waiting → tag' ≠ .bk) → Md gs.size (upd S i x) tag' st sm)
    (hgone : K i → x ≤ 6 → ∃ r, Gone (stA X.Wg) (t ++ MemOp.ofEvents i g.frame.fn g.frame.place es) i r) (hoth : ¬ K i → x = 1) (hnb : g'.status ≠ .blocked) (hx : x < S i ∨ (x = S i ∧ Rk.Sub r' (ρ i))) :
    ∃ m' ops, runT X.P (crowd gs W sl) i = (.next m', ops) ∧ TurnC X Anch Fin Shun Sh K W0 tag S ρ r0 gs.size t O m' ops := by
  have hi0' : (i == 0) = false := by simpa using hi0
  have hlt : i < gs.size := (Array.getElem?_eq_some_iff.1 hi).1
  have hsize : 0 < gs.size := by omega
  obtain ⟨a, h0⟩ : ∃ a, gs[0]? = some a := ⟨gs[0], Array.getElem?_eq_getElem hsize⟩
  obtain ⟨st, sm, hwgat, hmd⟩ := hwg
  have hlive : WgLive X.ty X.Wg W → WgLive X.ty X.Wg W' := fun _ => ⟨st, sm, hwgat⟩
  obtain ⟨tag', r0', hct, htag, hwake⟩ := ((h.core.sit 0 a h0).1 rfl).other hA (W' := W') hlive g g'
  have hrel : ∀ j, j ≠ i → Rely (O j) X.Z W W' := fun j hj => by
    rcases hg with ⟨_, hf⟩ | ⟨rfl, _⟩
    · exact hf.rely h.core.apart hj
    · exact .refl _
  have others : ∀ j y, j ≠ i → gs[j]? = some y → CSit X Anch Fin tag S ρ r0 j (Deaf t j) (O j) y W → CSit X Anch Fin tag' (upd S i x) (upd ρ i r') r0' j (Deaf t j) (O j) (Go.Conc.woken X.P g g' W' y) W' := fun j y hj hy hs => by
    refine ⟨fun e => ?_, fun e => ?_⟩
    · subst e
      rw [h0] at hy
      cases hy
      exact hct
    · rw [h.sleeps ok e hy, upd_ne _ _ hj, upd_ne _ _ hj]
      exact (hs.2 e).rely fun _ => ⟨hrel j hj, hlive⟩
  have mine : CSit X Anch Fin tag' (upd S i x) (upd ρ i r') r0' i (deafBehind (Deaf t i) es) (O i) g' W' := ⟨fun e => absurd e hi0, fun _ => by rw [upd_same, upd_same]; exact hws⟩
  have hcore : Core Shun Sh X.Z K (CSit X Anch Fin tag' (upd S i x) (upd ρ i r') r0') ((gs.map (Go.Conc.woken X.P g g' W')).setIfInBounds i g') W' (t ++ MemOp.ofEvents i g.frame.fn g.frame.place es) O := by
    rcases hg with ⟨hk, hf⟩ | ⟨rfl, hm⟩
    · have := h.core.own (Sit' := CSit X Anch Fin tag' (upd S i x) (upd ρ i r') r0') hi (.inr hk) hf (fun j y hj hy hs _ => others j y hj hy hs) mine g.frame.fn g.frame.place
      rwa [upd_self] at this
    · exact h.core.slip hi hm others mine _ _
  refine ⟨_, _, runT_crowd_go (P := X.P) (sl := sl) (i := i) hi (by rw [hi0']; exact hst), tag', upd S i x, upd ρ i r', r0', _, W', sl, O, rfl, by simp, rfl, ⟨hcore, fun j hj => by simpa using h.kin j hj, by rw [hshut]; exact h.shut, ⟨st, sm, hwgat, by simpa using hmd tag' htag hwake⟩, fun j hj hs => ?_, fun j hj => ?_, fun j y hj hy => ?_, h.know.trans (hrel 0 (Ne.symm hi0))⟩, (Phi_fall hlt htag hx).imp id fun e => ⟨e.1, .inl e.2⟩⟩
  · by_cases e : j = i
    · subst e
      rw [upd_same] at hs
      exact hgone hj hs
    · rw [upd_ne _ _ e] at hs
      obtain ⟨r, hr⟩ := h.gone j hj hs
      exact ⟨r, hr.other fun op hop => by obtain ⟨e', _, rfl⟩ := Go.Conc.mem_ofEvents hop; exact Ne.symm e⟩
  · by_cases e : j = i
    · subst e; rw [upd_same]; exact hoth hj
    · rw [upd_ne _ _ e]; exact h.other j hj
  · by_cases e : i = j
    · subst e
      rw [Array.getElem?_setIfInBounds_self_of_lt (by simpa using hlt)] at hy
      cases hy
      exact hnb
    · rw [Array.getElem?_setIfInBounds_ne e, Array.getElem?_map] at hy
      obtain ⟨z, hz, rfl⟩ := Option.map_eq_some_iff.1 hy
      rw [h.sleeps ok hj hz]
      exact h.nb j z hj hz

def OnWg (Wg : Nat) (e : Event) : Prop := (∃ a w, e = ⟨.cell a, w, true⟩ ∧ a.block = Wg) ∨ ∃ m, e.loc = .mark m ∧ (MemAct.ofEvent e).touch? = none ∧ ∀ a, m ≠ .release a
omit [Payload] in
theorem fine_wg {j : Nat} {Oj : Nat → Prop} (hO : ∀ b, Oj b → b < W.heap.size) (hW : Sh X.Wg) (ha : Aside X.Wg W W') (h : ∀ e ∈ es, OnWg X.Wg e) : Fine Sh X.Z Oj Oj j W W' es := by
  refine ⟨ha.os, ha.tape, ha.output, by rw [ha.size]; exact Nat.le_refl _, fun b _ _ hb => ha.block b fun e => hb (e ▸ hW), fun b hb => ⟨.inl hb, by rw [ha.size]; exact hO b hb⟩, fun e he => ?_⟩
  rcases h e he with ⟨a, w, rfl, hb⟩ | ⟨m, hm, ht, hr⟩
  · refine ⟨fun b hb' => ?_, by simp [MemAct.ofEvent]⟩
    simp only [MemAct.ofEvent, MemAct.touch?, Option.some.injEq] at hb'
    subst hb'
    exact ⟨X.Wg, hb, .inr (.inr ⟨hW, by simp, by simp⟩)⟩
  · refine ⟨fun b hb' => (by rw [ht] at hb'; cases hb'), fun a e' => ?_⟩
    obtain ⟨loc, w, s⟩ := e
    simp only at hm
    subst hm
    simp only [MemAct.ofEvent, MemAct.mark.injEq] at e'
    exact hr a e'
omit [Payload] in
theorem onWg_cell (a : Addr) (w : Bool) (h : a.block = X.Wg) : OnWg X.Wg ⟨.cell a, w, true⟩ := .inl ⟨a, w, rfl, h⟩
omit [Payload] in
theorem onWg_mark (m : Mark) (h : (MemAct.mark m).touch? = none) (hr : ∀ a, m ≠ .release a) : OnWg X.Wg (mk m) := .inr ⟨m, rfl, h, hr⟩

theorem Gone.deafly {a : Addr} {k r d : Nat} (h : Gone a t k r) (hd : Deaf t k = d) (fn : FuncId) (pos : String) (hes : ∀ e ∈ es, OnWg a.block e) (hdeaf : ∀ j e, es[j]? = some e → (MemAct.ofEvent e).touch? ≠ none → deafBehind d (es.extract 0 j) ≠ 0) : Gone a (t ++ MemOp.ofEvents k fn pos es) k r := by
  refine h.app fun i op ho hi hk x hx => ?_
  obtain ⟨j, rfl⟩ : ∃ j, i = t.size + j := ⟨i - t.size, by omega⟩
  have ho' : (MemOp.ofEvents k fn pos es)[j]? = some op := by rw [Array.getElem?_append_right (by omega)] at ho; simpa using ho
  rw [ofEvents_eq, Array.getElem?_map] at ho'
  obtain ⟨e, he, rfl⟩ := Option.map_eq_some_iff.1 ho'
  have hem : e ∈ es := Array.mem_of_getElem? he
  have hjl : j < es.size := (Array.getElem?_eq_some_iff.1 he).1
  rcases hes e hem with ⟨b, w, rfl, hb⟩ | ⟨m, _, ht, _⟩
  · simp only [MemAct.ofEvent, MemAct.touch?, Option.some.injEq] at hx
    subst hx
    refine ⟨hb, rfl, ?_⟩
    rintro ⟨g', hg', hh⟩
    have : g' = k := by
      unfold Trace.g? at hg'
      rw [ho] at hg'
      exact (Option.some.inj hg').symm
    subst this
    rw [deaf_inside t g' fn pos es j (by omega), hd] at hh
    exact hdeaf j _ he (by simp [MemAct.ofEvent, MemAct.touch?]) hh
  · exact absurd hx (by rw [ht]; simp)
end
end Go.Proofs.YtgcbcagaibecbaaGreatDoor.Pool

namespace Go.Proofs.YtgcbcagaibecbaaGreatDoor.Pool
set_option maxRecDepth 20000
open Go Go.Conc Gap
open Go.ConcN (upd upd_same upd_ne WgLive PayAt RW AtK1 AtD1 AtD2 AtD3 AtD4 sumTo sumTo_upd le_sumTo)
open Go.ConcR (WgAt stA smA KK Payload DC0 mk rd wr)

section
variable [Payload] {X : Shop} {Anch : Goroutine → World → Prop} {Fin : Goroutine → Prop} {Shun : Loc → Prop} {Sh K : Nat → Prop} {W0 : World} {tag : Tg} {S : Nat → Nat} {ρ : Nat → Rk} {r0 : Rk} {gs : Array Goroutine} {W W' : World} {t : Trace} {O : Nat → Nat → Prop}
  {sl : Option (Nat × Nat)} {i x : Nat} {g g' : Goroutine} {es : Array Event} {r' : Rk}

theorem Md.same {N : Nat} {st sm : Int} {tag' : Tg} (h : Md N S tag st sm) (hx : S i = x) (ht : tag' = tag ∨ (tag = .bk ∧ tag' = .w3)) : Md N (upd S i x) tag' st sm := by
  subst hx
  rw [upd_self]
  rcases ht with rfl | ⟨rfl, rfl⟩
  · exact h
  · exact h.wake

theorem Wt.idle (ok : X.Ok) (hA : ∀ g w, Anch g w → g.status = .running) (h : Wt X Anch Fin Shun Sh K W0 tag S ρ r0 gs W t O) (hi0 : i ≠ 0) (hi : gs[i]? = some g) (hst : stepG X.P false g W = .go g' W es) (hg : (K i ∧ ∀ e ∈ es, EvOk (O i) X.Z e) ∨ ∀ e ∈ es, e.mute = true)
    (hx : S i = x) (hws : WS X x none r' (deafBehind (Deaf t i) es) (O i) g' W) (hgone : K i → x ≤ 6 → es = #[] ∨ ∀ e ∈ es, e.mute = true) (hnb : g'.status ≠ .blocked) (hsub : Rk.Sub r' (ρ i)) :
    ∃ m' ops, runT X.P (crowd gs W sl) i = (.next m', ops) ∧ TurnC X Anch Fin Shun Sh K W0 tag S ρ r0 gs.size t O m' ops := by
  obtain ⟨st, sm, hwg, hmd⟩ := h.md
  refine h.work (x := x) (r' := r') ok hA hi0 hi hst (hg.imp (fun x => ⟨x.1, .still (fun b hb => h.core.apart.lo i b hb) x.2⟩) fun x => ⟨rfl, x⟩) rfl hws ⟨st, sm, hwg, fun tag' ht _ => hmd.same hx ht⟩ (fun hk h6 => ?_) (fun hk => hx.symm.trans (h.other i hk)) hnb (.inr ⟨hx.symm, hsub⟩)
  obtain ⟨r, hr⟩ := h.gone i hk (by omega)
  refine ⟨r, hr.mute fun op hop => ?_⟩
  obtain ⟨e, he, rfl⟩ := Go.Conc.mem_ofEvents hop
  rcases hgone hk h6 with rfl | hm
  · simp at he
  · exact touch_mute (hm e he)

theorem Wt.worker (ok : X.Ok) (hA : ∀ g w, Anch g w → g.status = .running) (hSh : Sh X.Wg ∧ X.ct ≠ X.Wg) (hsmall : ∀ S, (∀ j, ¬ K j → S j = 1) → Vc gs.size S < 2147483647) (h : Wt X Anch Fin Shun Sh K W0 tag S ρ r0 gs W t O) (hi0 : i ≠ 0) (hi : gs[i]? = some g) (hrun : g.status = .running) :
    ∃ m' ops, runT X.P (crowd gs W sl) i = (.next m', ops) ∧ TurnC X Anch Fin Shun Sh K W0 tag S ρ r0 gs.size t O m' ops := by
  have hi0' : (i == 0) = false := by simpa using hi0
  have hlt : i < gs.size := (Array.getElem?_eq_some_iff.1 hi).1
  have ap := h.core.apart
  have hlow : ∀ b, O i b → b < W.heap.size := fun b hb => ap.lo i b hb
  obtain ⟨st, sm, hwg, hmd⟩ := h.md
  have hK : S i ≠ 1 → K i := fun hn => Classical.byContradiction fun hk => hn (h.other i hk)
  have hw := (h.core.sit i g hi).2 hi0
  have shutSet : ∀ a v, a.block = X.Wg → (W.setCell a v).heap[X.ct]? = W.heap[X.ct]? := fun a v ha => (aside_setCell W a v).block X.ct (by rw [ha]; exact hSh.2)
  have onrw : ∀ e ∈ #[rd (stA X.Wg), wr (stA X.Wg)], OnWg X.Wg e := by
    intro e he
    simp at he
    rcases he with rfl | rfl
    · exact onWg_cell _ _ rfl
    · exact onWg_cell _ _ rfl
  have two : ∀ {j : Nat} {e : Event}, #[rd (stA X.Wg), wr (stA X.Wg)][j]? = some e → deafBehind 1 (#[rd (stA X.Wg), wr (stA X.Wg)].extract 0 j) ≠ 0 := fun {j e} he => by
    have hj : j < 2 := (Array.getElem?_eq_some_iff.1 he).1
    have : j = 0 ∨ j = 1 := by omega
    rcases this with rfl | rfl <;> simp [deafBehind, rd]
  by_cases h19 : S i = 1 ∨ S i = 9
  · rcases hw.next ok h19 hrun with ⟨g', es, r', e, hsub, hw', hnb, h1, h9⟩ | ⟨h9, hd, C, g0, r', hC0, hcomm, hAR, hsub⟩
    · refine h.idle ok hA hi0 hi e ?_ rfl hw' (fun _ h6 => ?_) hnb hsub
      · rcases h19 with h19 | h19
        · exact .inr (h1 h19)
        · exact .inl ⟨hK (by omega), h9 h19⟩
      · rcases h19 with h19 | h19
        · exact .inr (h1 h19)
        · omega
    · obtain ⟨m, m', tm, hsh⟩ := h.shut
      have hk : K i := hK (by omega)
      have hp : partners (gs.setIfInBounds i ph) X.ct true = [] := partners_nil fun j gj hj => by
        rcases getElem?_stand gs i j gj hj with ⟨_, rfl⟩ | ⟨hji, hj⟩
        · rfl
        · by_cases hj0 : j = 0
          · subst hj0
            rcases ((h.core.sit 0 gj hj).1 rfl).status hA with e | ⟨_, e1, e2⟩
            · exact offersAt_of_not_blocked (by rw [e]; simp) _ _
            · unfold offersAt; rw [e1, e2]
          · exact offersAt_of_not_blocked (h.nb j gj hj0 hj) _ _
      have hr := crowd_recv_closed (P := X.P) (sl := sl) hi (by rw [hi0']; exact hcomm W) hsh hp
      refine ⟨_, _, hr, ?_⟩
      obtain ⟨n, hgo⟩ := (ok.ar C g0 W (hAR W (.refl W))).2.2.2
      have hu : ∀ op ∈ MemOp.ofEvents i g.frame.fn g.frame.place #[] ++ #[({ g := i, fn := g0.frame.fn, pos := g0.frame.place, act := .recvClosed X.ct } : MemOp)], op.g = i ∧ op.act.touch? = none ∧ (∀ a, op.act ≠ .mark (.release a)) ∧ op.act ≠ .mark .disable ∧ op.act ≠ .mark .enable := by
        intro op hop
        rw [ofEvents_nil] at hop
        simp at hop
        subst hop
        exact ⟨rfl, rfl, by simp, by simp, by simp⟩
      have hD : ∀ j, Deaf (t ++ (MemOp.ofEvents i g.frame.fn g.frame.place #[] ++ #[({ g := i, fn := g0.frame.fn, pos := g0.frame.place, act := .recvClosed X.ct } : MemOp)])) j = Deaf t j := fun j => Deaf_flat (fun op hop => (hu op hop).2.2.2) j
      have hgs : ∀ j y, j ≠ i → (gs.setIfInBounds i (g0.finishComm X.P #[rcase X.ct X.zt] (.recv true) 0 X.zt false))[j]? = some y → gs[j]? = some y := fun j y hj hy => by rwa [Array.getElem?_setIfInBounds_ne (Ne.symm hj)] at hy
      have hself : (gs.setIfInBounds i (g0.finishComm X.P #[rcase X.ct X.zt] (.recv true) 0 X.zt false))[i]? = some (g0.finishComm X.P #[rcase X.ct X.zt] (.recv true) 0 X.zt false) := Array.getElem?_setIfInBounds_self_of_lt hlt
      have hws : WS X 7 none (.nat n) 0 (O i) (g0.finishComm X.P #[rcase X.ct X.zt] (.recv true) 0 X.zt false) W := .clos hgo hC0
      refine ⟨tag, upd S i 7, upd ρ i (.nat n), r0, _, W, sl, O, rfl, by simp, rfl, ⟨⟨fun j y hy => ?_, fun j hj => (hD j).trans (h.core.above j (by simpa using hj)), ?_, ap⟩, fun j hj => by simpa using h.kin j hj, h.shut, ⟨st, sm, hwg, by simpa using hmd.counted hlt (by omega) (.inl rfl)⟩, fun j hj h6 => ?_, fun j hj => ?_, fun j y hj hy => ?_, h.know⟩, (Phi_fall (r' := .nat n) hlt (.inl rfl) (.inl (by omega))).imp id fun e => ⟨e.1, .inl e.2⟩⟩
      · rw [hD]
        by_cases e : j = i
        · subst e
          rw [hself] at hy
          cases hy
          refine ⟨fun e => absurd e hi0, fun _ => ?_⟩
          rw [upd_same, upd_same, hd]
          exact hws
        · refine ⟨(h.core.sit j y (hgs j y e hy)).1, fun e0 => ?_⟩
          rw [upd_ne _ _ e, upd_ne _ _ e]
          exact (h.core.sit j y (hgs j y e hy)).2 e0
      · exact h.core.tok.move (fun op hop => ⟨(hu op hop).2.1, (hu op hop).2.2.1⟩) (fun g b hb => ⟨g, hb, fun i hk => hk.app _⟩) (fun g hg => .inr (.inl hg)) fun g hg => hg
      · by_cases e : j = i
        · subst e; rw [upd_same] at h6; omega
        · rw [upd_ne _ _ e] at h6
          obtain ⟨r, hr⟩ := h.gone j hj h6
          exact ⟨r, hr.other fun op hop => by rw [(hu op hop).1]; exact Ne.symm e⟩
      · by_cases e : j = i
        · subst e; exact absurd hk hj
        · rw [upd_ne _ _ e]; exact h.other j hj
      · by_cases e : j = i
        · subst e
          rw [hself] at hy
          cases hy
          simp [Goroutine.finishComm]
        · exact h.nb j y hj (hgs j y e hy)
  · have hk : K i := hK fun e => h19 (.inl e)
    generalize hs : S i = s at hw
    generalize hr : ρ i = r at hw
    generalize hd : Deaf t i = d at hw
    generalize htk : (none : Option Nat) = tk at hw
    cases hw with
    | quit hq => omega
    | recv hq hC => omega
    | parkR hq hC => omega
    | wake hq hC => omega
    | task hq hC => cases htk
    | parkS hq hs hC => cases htk
    | @clos n C _ _ _ hq hC =>
      rcases hq.cases with hstop | ⟨n', rfl, hstep⟩
      · obtain ⟨_, g', hstp, m, hgo⟩ := hstop W (Go.ConcN.RW.refl W)
        refine h.work (x := 6) (r' := .nat m) ok hA hi0 hi hstp (.inl ⟨hk, fine_wg hlow hSh.1 ⟨rfl, rfl, rfl, rfl, fun _ _ => rfl⟩ (by intro e he; simp at he; subst he; exact onWg_mark _ rfl (by simp))⟩) rfl ?_ ⟨st, sm, hwg, fun tag' ht _ => ?_⟩ (fun _ _ => ⟨t.size, by rw [ofEvents_eq]; simp only [List.map_toArray, List.map_cons, List.map_nil]; exact Gone.new (a := stA X.Wg) g.frame.fn g.frame.place hd⟩) (fun e => absurd hk e) (by rw [Goes.running (fun _ _ h => h.1) W (Go.ConcN.RW.refl W) hgo]; simp) (.inl (by omega))
        · rw [hd]; exact .k1 hgo hC
        · have := hmd.counted hlt (by omega) (x := 6) (by omega)
          rcases ht with rfl | ⟨rfl, rfl⟩
          · exact this
          · exact this.wake
      · obtain ⟨g', w', es, hstp, ⟨rfl, hes⟩, hgo⟩ := hstep W (Go.ConcN.RW.refl W)
        have hes' : ∀ e ∈ es, EvOk (O i) X.Z e := fun e he => (hes e he).mono fun b hb => hC b hb
        exact h.idle ok hA hi0 hi hstp (.inl ⟨hk, hes'⟩) hs (by rw [flat_evOk hes', hd]; exact .clos hgo hC) (fun _ e => by omega) (by rw [Goes.running (fun _ _ h => h.1) _ (Go.ConcN.RW.refl _) hgo]; simp) (by rw [hr]; exact Rk.sub_nat n')
    | @k1 n C _ _ _ hq hC =>
      rcases hq.cases with hstop | ⟨n', rfl, hstep⟩
      · obtain ⟨_, g', hstp, m, hgo⟩ := hstop W (Go.ConcN.RW.refl W)
        refine h.work (x := 5) (r' := .nat m) ok hA hi0 hi hstp (.inl ⟨hk, fine_wg hlow hSh.1 ⟨rfl, rfl, rfl, rfl, fun _ _ => rfl⟩ (by intro e he; simp at he; subst he; exact onWg_mark _ rfl (by simp))⟩) rfl ?_ ⟨st, sm, hwg, fun tag' ht _ => ?_⟩ (fun _ _ => ?_) (fun e => absurd hk e) (by rw [Goes.running (fun _ _ h => h.1) W (Go.ConcN.RW.refl W) hgo]; simp) (.inl (by omega))
        · rw [hd]; exact .d1 hgo hC
        · have := hmd.counted hlt (by omega) (x := 5) (by omega)
          rcases ht with rfl | ⟨rfl, rfl⟩
          · exact this
          · exact this.wake
        · obtain ⟨r, hr⟩ := h.gone i hk (by omega)
          refine ⟨r, hr.mute fun op hop => ?_⟩
          obtain ⟨e, he, rfl⟩ := Go.Conc.mem_ofEvents hop
          simp at he
          subst he
          rfl
      · obtain ⟨g', w', es, hstp, ⟨rfl, rfl⟩, hgo⟩ := hstep W (Go.ConcN.RW.refl W)
        exact h.idle ok hA hi0 hi hstp (.inl ⟨hk, by simp⟩) hs (by rw [hd]; exact .k1 hgo hC) (fun _ _ => .inl rfl) (by rw [Goes.running (fun _ _ h => h.1) _ (Go.ConcN.RW.refl _) hgo]; simp) (by rw [hr]; exact Rk.sub_nat n')
    | @d1 n C _ _ _ hq hC =>
      rcases hq.cases with hstop | ⟨n', rfl, hstep⟩
      · obtain ⟨_, hd1⟩ := hstop W (Go.ConcN.RW.refl W)
        obtain ⟨hO, rfl, hpos, hc⟩ := hmd.seen hlt (by omega)
        have hle := hsmall S h.other
        obtain ⟨r, hG⟩ := h.gone i hk (by omega)
        have hG' := hG.deafly hd g.frame.fn g.frame.place onrw fun j e he _ => two he
        have hv1 : ((Vc gs.size S - 1 : Nat) : Int) + 1 = (Vc gs.size S : Int) := by omega
        have hvu : Vc gs.size (upd S i 1) = Vc gs.size S - 1 := by
          have := Vc_upd (S := S) hlt 1
          rw [if_pos (by omega), if_neg (by omega)] at this
          omega
        have hone : deafBehind 1 #[rd (stA X.Wg), wr (stA X.Wg)] = 1 := by simp [deafBehind, rd, wr]
        have live : ∀ v : Int, WgAt X.ty X.Wg (W.setCell (stA X.Wg) (.int .u64 v)) v 0 := fun v => hwg.setSt v
        rcases hc with ⟨hop, hst, hvs⟩ | ⟨hsem, hst⟩
        · obtain ⟨g', hstp, _, hq⟩ := hd1 (Vc gs.size S - 1) 0 (by omega) (by omega) (by rw [hv1]; simpa [hst] using hwg)
          obtain ⟨q, hq⟩ := hq (by omega)
          refine h.work (x := 1) (r' := .nat q) ok hA hi0 hi hstp (.inl ⟨hk, fine_wg hlow hSh.1 (aside_setCell W (stA X.Wg) _) onrw⟩) (shutSet _ _ rfl) (by rw [hd, hone]; exact .quit hq) ⟨_, _, live _, fun tag' ht _ => ?_⟩ (fun _ _ => ⟨r, hG'⟩) (fun e => absurd hk e) (by rcases hq.status with e | e <;> rw [e] <;> simp) (.inl (by omega))
          have ht' : tag' = tag := ht.resolve_right fun e => by rw [e.1] at hop; exact hop
          subst ht'
          have := Md.opn (N := gs.size) (S := upd S i 1) hop (hO.upd (by omega)) fun vs e => by have := hvs vs e; omega
          rw [hvu] at this
          simpa using this
        · by_cases h0 : Vc gs.size S - 1 = 0
          · obtain ⟨g', hstp, hq, _⟩ := hd1 (Vc gs.size S - 1) 1 (by omega) (by omega) (by rw [hv1]; simpa [hst] using hwg)
            obtain ⟨m, hgo⟩ := hq ⟨h0, rfl⟩
            refine h.work (x := 4) (r' := .nat m) ok hA hi0 hi hstp (.inl ⟨hk, fine_wg hlow hSh.1 (aside_setCell W (stA X.Wg) _) onrw⟩) (shutSet _ _ rfl) (by rw [hd, hone]; exact .d2 hgo hC) ⟨_, _, live _, fun tag' ht _ => ?_⟩ (fun _ _ => ⟨r, hG'⟩) (fun e => absurd hk e) (by rw [Goes.running (fun _ _ h => h.1) _ (Go.ConcN.RW.refl _) hgo]; simp) (.inl (by omega))
            have hall : AllOne gs.size (upd S i 1) := allOne_of (hO.upd (by omega)) (by omega)
            have hlast : Md gs.size (upd S i 4) tag (if upd S i 4 i = 2 then 0 else 1) 0 := .last i hsem hlt (by rw [upd_same]; omega) fun k hk' hki => by
              have := hall k hk'
              rw [upd_ne _ _ hki] at this ⊢
              exact this
            rw [upd_same, if_neg (by omega)] at hlast
            have hz : ((Vc gs.size S - 1 : Nat) : Int) * KK + ((1 : Nat) : Int) = 1 := by rw [h0]; simp
            rw [hz]
            rcases ht with rfl | ⟨rfl, rfl⟩
            · exact hlast
            · exact hlast.wake
          · obtain ⟨g', hstp, _, hq⟩ := hd1 (Vc gs.size S - 1) 1 (by omega) (by omega) (by rw [hv1]; simpa [hst] using hwg)
            obtain ⟨q, hq⟩ := hq (by omega)
            refine h.work (x := 1) (r' := .nat q) ok hA hi0 hi hstp (.inl ⟨hk, fine_wg hlow hSh.1 (aside_setCell W (stA X.Wg) _) onrw⟩) (shutSet _ _ rfl) (by rw [hd, hone]; exact .quit hq) ⟨_, _, live _, fun tag' ht _ => ?_⟩ (fun _ _ => ⟨r, hG'⟩) (fun e => absurd hk e) (by rcases hq.status with e | e <;> rw [e] <;> simp) (.inl (by omega))
            have := Md.reg (N := gs.size) (S := upd S i 1) hsem (hO.upd (by omega)) (by omega)
            rw [hvu] at this
            rcases ht with rfl | ⟨rfl, rfl⟩
            · exact this
            · exact this.wake
      · obtain ⟨g', w', es, hstp, ⟨rfl, rfl⟩, hgo⟩ := hstep W (Go.ConcN.RW.refl W)
        exact h.idle ok hA hi0 hi hstp (.inl ⟨hk, by simp⟩) hs (by rw [hd]; exact .d1 hgo hC) (fun _ _ => .inl rfl) (by rw [Goes.running (fun _ _ h => h.1) _ (Go.ConcN.RW.refl _) hgo]; simp) (by rw [hr]; exact Rk.sub_nat n')
    | @d2 n C _ _ _ hq hC =>
      rcases hq.cases with hstop | ⟨n', rfl, hstep⟩
      · obtain ⟨_, hd2⟩ := hstop W (Go.ConcN.RW.refl W)
        obtain ⟨hsem, rfl, hst, hall⟩ := hmd.lastOf hlt (.inl hs)
        rw [hs, if_neg (by omega)] at hst
        subst hst
        obtain ⟨g', hstp, m, hgo⟩ := hd2 hwg
        obtain ⟨r, hG⟩ := h.gone i hk (by omega)
        refine h.work (x := 3) (r' := .nat m) ok hA hi0 hi hstp (.inl ⟨hk, fine_wg hlow hSh.1 ⟨rfl, rfl, rfl, rfl, fun _ _ => rfl⟩ (by intro e he; simp at he; subst he; exact onWg_cell _ _ rfl)⟩) rfl (by rw [hd]; exact .d3 hgo hC) ⟨_, _, hwg, fun tag' ht _ => ?_⟩ (fun _ _ => ⟨r, hG.deafly hd _ _ (by intro e he; simp at he; subst he; exact onWg_cell _ _ rfl) fun j e he _ => ?_⟩) (fun e => absurd hk e) (by rw [Goes.running (fun _ _ h => h.1) _ (Go.ConcN.RW.refl _) hgo]; simp) (.inl (by omega))
        · have hlast : Md gs.size (upd S i 3) tag (if upd S i 3 i = 2 then 0 else 1) 0 := .last i hsem hlt (by rw [upd_same]; omega) fun k hk' hki => by rw [upd_ne _ _ hki]; exact hall k hk' hki
          rw [upd_same, if_neg (by omega)] at hlast
          rcases ht with rfl | ⟨rfl, rfl⟩
          · exact hlast
          · exact hlast.wake
        · have hj : j < 1 := (Array.getElem?_eq_some_iff.1 he).1
          have : j = 0 := by omega
          subst this
          simp [deafBehind]
      · obtain ⟨g', w', es, hstp, ⟨rfl, rfl⟩, hgo⟩ := hstep W (Go.ConcN.RW.refl W)
        exact h.idle ok hA hi0 hi hstp (.inl ⟨hk, by simp⟩) hs (by rw [hd]; exact .d2 hgo hC) (fun _ _ => .inl rfl) (by rw [Goes.running (fun _ _ h => h.1) _ (Go.ConcN.RW.refl _) hgo]; simp) (by rw [hr]; exact Rk.sub_nat n')
    | @d3 n C _ _ _ hq hC =>
      rcases hq.cases with hstop | ⟨n', rfl, hstep⟩
      · obtain ⟨_, hd2⟩ := hstop W (Go.ConcN.RW.refl W)
        obtain ⟨hsem, rfl, hst, hall⟩ := hmd.lastOf hlt (.inr (.inl hs))
        rw [hs, if_neg (by omega)] at hst
        subst hst
        obtain ⟨g', hstp, m, hgo⟩ := hd2 hwg
        obtain ⟨r, hG⟩ := h.gone i hk (by omega)
        refine h.work (x := 2) (r' := .nat m) ok hA hi0 hi hstp (.inl ⟨hk, fine_wg hlow hSh.1 (aside_setCell W (stA X.Wg) _) (by intro e he; simp at he; subst he; exact onWg_cell _ _ rfl)⟩) (shutSet _ _ rfl) (by rw [hd]; exact .d4 hgo hC) ⟨_, _, hwg.setSt 0, fun tag' ht _ => ?_⟩ (fun _ _ => ⟨r, hG.deafly hd _ _ (by intro e he; simp at he; subst he; exact onWg_cell _ _ rfl) fun j e he _ => ?_⟩) (fun e => absurd hk e) (by rw [Goes.running (fun _ _ h => h.1) _ (Go.ConcN.RW.refl _) hgo]; simp) (.inl (by omega))
        · have hlast : Md gs.size (upd S i 2) tag (if upd S i 2 i = 2 then 0 else 1) 0 := .last i hsem hlt (by rw [upd_same]; omega) fun k hk' hki => by rw [upd_ne _ _ hki]; exact hall k hk' hki
          rw [upd_same, if_pos rfl] at hlast
          rcases ht with rfl | ⟨rfl, rfl⟩
          · exact hlast
          · exact hlast.wake
        · have hj : j < 1 := (Array.getElem?_eq_some_iff.1 he).1
          have : j = 0 := by omega
          subst this
          simp [deafBehind]
      · obtain ⟨g', w', es, hstp, ⟨rfl, rfl⟩, hgo⟩ := hstep W (Go.ConcN.RW.refl W)
        exact h.idle ok hA hi0 hi hstp (.inl ⟨hk, by simp⟩) hs (by rw [hd]; exact .d3 hgo hC) (fun _ _ => .inl rfl) (by rw [Goes.running (fun _ _ h => h.1) _ (Go.ConcN.RW.refl _) hgo]; simp) (by rw [hr]; exact Rk.sub_nat n')
    | @d4 n C _ _ _ hq hC =>
      rcases hq.cases with hstop | ⟨n', rfl, hstep⟩
      · obtain ⟨_, hmw, hd2⟩ := hstop W (Go.ConcN.RW.refl W)
        obtain ⟨hsem, rfl, hst, hall⟩ := hmd.lastOf hlt (.inr (.inr hs))
        rw [hs, if_pos rfl] at hst
        subst hst
        obtain ⟨g', hstp, q, hq⟩ := hd2 hwg
        obtain ⟨r, hG⟩ := h.gone i hk (by omega)
        have hnb : g'.status ≠ .blocked := by rcases hq.status with e | e <;> rw [e] <;> simp
        have hnw : g'.status ≠ .waiting := by rcases hq.status with e | e <;> rw [e] <;> simp
        have onsem : ∀ e ∈ semEvents (smA X.Wg), OnWg X.Wg e := by
          intro e he
          simp [semEvents] at he
          rcases he with rfl | rfl | rfl | rfl
          · exact onWg_mark .disable rfl (by simp)
          · exact onWg_cell _ _ rfl
          · exact onWg_cell _ _ rfl
          · exact onWg_mark .enable rfl (by simp)
        refine h.work (x := 1) (r' := .nat q) ok hA hi0 hi hstp (.inl ⟨hk, fine_wg hlow hSh.1 (aside_setCell W (smA X.Wg) _) onsem⟩) (shutSet _ _ rfl) (by rw [hd]; exact .quit hq) ⟨_, _, hwg.setSm 1, fun tag' ht hbk => ?_⟩ (fun _ _ => ⟨r, hG.deafly hd _ _ onsem fun j e he ht => ?_⟩) (fun e => absurd hk e) hnb (.inl (by omega))
        · have hb := hbk hmw hnb hnw
          have hsem' : tag'.isSem := by
            rcases ht with rfl | ⟨rfl, rfl⟩
            · exact hsem
            · trivial
          exact .sema hsem' hb fun k hk' => by
            by_cases e : k = i
            · subst e; exact upd_same _ _ _
            · rw [upd_ne _ _ e]; exact hall k hk' e
        · have hj : j < 4 := (Array.getElem?_eq_some_iff.1 he).1
          have : j = 0 ∨ j = 1 ∨ j = 2 ∨ j = 3 := by omega
          rcases this with rfl | rfl | rfl | rfl <;> simp [deafBehind, semEvents]
      · obtain ⟨g', w', es, hstp, ⟨rfl, rfl⟩, hgo⟩ := hstep W (Go.ConcN.RW.refl W)
        exact h.idle ok hA hi0 hi hstp (.inl ⟨hk, by simp⟩) hs (by rw [hd]; exact .d4 hgo hC) (fun _ _ => .inl rfl) (by rw [Goes.running (fun _ _ h => h.1) _ (Go.ConcN.RW.refl _) hgo]; simp) (by rw [hr]; exact Rk.sub_nat n')
end
end Go.Proofs.YtgcbcagaibecbaaGreatDoor.Pool

namespace Go.Proofs.YtgcbcagaibecbaaGreatDoor.Pool
set_option maxRecDepth 20000
open Go Go.Conc Gap
open Go.ConcN (upd upd_same upd_ne WgLive PayAt RW AtK1 AtD1 AtD2 AtD3 AtD4 sumTo sumTo_upd le_sumTo)
open Go.ConcR (WgAt stA smA KK Payload DC0 mk rd wr)

section
theorem WS.runs [Payload] {X : Shop} (ok : X.Ok) {st : Nat} {tk : Option Nat} {r : Rk} {d : Nat} {O : Nat → Prop} {x : Goroutine} {W : World} (h : WS X st tk r d O x W) (hst : st ≠ 1) (hnb : x.status ≠ .blocked) : x.status = .running := by
  rcases h.status ok with e | e | ⟨g0, cs, sh, e, _⟩
  · exact e
  · exfalso
    have no : x.status = .running → False := fun e' => by rw [e'] at e; cases e
    cases h with
    | quit h => exact hst rfl
    | recv h hC => exact no (Goes.running (fun g w h => (ok.ar _ g w h).1) W (.refl W) h)
    | parkR h hC => cases e
    | wake h hC => cases e
    | task h hC => exact no (h.run fun O g W h => (ok.asn _ _ O g W h).1)
    | parkS h hs hC => cases e
    | clos h hC => exact no (Goes.running (fun g w h => h.1) W (Go.ConcN.RW.refl W) h)
    | k1 h hC => exact no (Goes.running (fun g w h => h.1) W (Go.ConcN.RW.refl W) h)
    | d1 h hC => exact no (Goes.running (fun g w h => h.1) W (Go.ConcN.RW.refl W) h)
    | d2 h hC => exact no (Goes.running (fun g w h => h.1) W (Go.ConcN.RW.refl W) h)
    | d3 h hC => exact no (Goes.running (fun g w h => h.1) W (Go.ConcN.RW.refl W) h)
    | d4 h hC => exact no (Goes.running (fun g w h => h.1) W (Go.ConcN.RW.refl W) h)
  · exact absurd (by rw [e]; rfl) hnb
theorem Vc_ex {N : Nat} {S : Nat → Nat} (h : 1 ≤ Vc N S) : ∃ i, i < N ∧ 5 ≤ S i := Classical.byContradiction fun hn => by
  have : Vc N S = sumTo N fun _ => 0 := Go.ConcN.sumTo_congr fun i hi => if_neg fun x => hn ⟨i, hi, x⟩
  have h0 := Go.ConcN.sumTo_le (f := fun _ => 0) (c := 0) (j := N) fun _ _ => Nat.le_refl _
  omega
theorem WS.quits [Payload] {X : Shop} {tk : Option Nat} {r : Rk} {d : Nat} {O : Nat → Prop} {x : Goroutine} {W : World} (h : WS X 1 tk r d O x W) : ∃ q, QuitsD X.P q d x := by
  generalize hst : (1 : Nat) = st at h
  cases h with
  | quit h => exact ⟨_, h⟩
  | _ => omega
end
section
variable [Payload] {X : Shop} {Anch : Goroutine → World → Prop} {Fin : Goroutine → Prop} {Shun : Loc → Prop} {Sh K : Nat → Prop} {W0 : World} {tag tag' : Tg} {S : Nat → Nat} {ρ : Nat → Rk} {r0 r0' : Rk} {gs : Array Goroutine} {W W' : World} {t : Trace} {O : Nat → Nat → Prop}
  {sl : Option (Nat × Nat)} {a a' : Goroutine} {es : Array Event} {st' sm' : Int}

theorem Wt.mine (ok : X.Ok) (hSh : Sh X.Wg ∧ X.ct ≠ X.Wg) (h : Wt X Anch Fin Shun Sh K W0 tag S ρ r0 gs W t O) (h0 : gs[0]? = some a) (hst : stepG X.P true a W = .go a' W' es) (ha : Aside X.Wg W W') (hes : ∀ e ∈ es, (OnWg X.Wg e ∨ ∃ x ww, e = Go.ConcR.mk (if ww = true then .write x else .read x) ∧ x.block = X.Wg)) (hwg : WgAt X.ty X.Wg W' st' sm') (hmd : Md gs.size S tag' st' sm')
    (hct : CT X Anch Fin tag' (deafBehind (Deaf t 0) es) r0' a' W') (hx : tag'.ph gs.size (Vc gs.size S) < tag.ph gs.size (Vc gs.size S) ∨ (tag'.ph gs.size (Vc gs.size S) = tag.ph gs.size (Vc gs.size S) ∧ Rk.Sub r0' r0)) :
    ∃ m' ops, runT X.P (crowd gs W sl) 0 = (.next m', ops) ∧ TurnC X Anch Fin Shun Sh K W0 tag S ρ r0 gs.size t O m' ops := by
  have hlt : 0 < gs.size := (Array.getElem?_eq_some_iff.1 h0).1
  have ap := h.core.apart
  have hf : Fine Sh X.Z (O 0) (O 0) 0 W W' es := by
    refine ⟨ha.os, ha.tape, ha.output, by rw [ha.size]; exact Nat.le_refl _, fun b _ _ hb => ha.block b fun e => hb (e ▸ hSh.1), fun b hb => ⟨.inl hb, by rw [ha.size]; exact ap.lo 0 b hb⟩, fun e he => ?_⟩
    rcases hes e he with h1 | ⟨x, w, rfl, hb⟩
    · exact (fine_wg (W := W) (W' := W) (es := #[e]) (j := 0) (fun b hb => ap.lo 0 b hb) hSh.1 ⟨rfl, rfl, rfl, rfl, fun _ _ => rfl⟩ (by simpa using h1)).evs e (by simp)
    · refine ⟨fun b hb' => ?_, ?_⟩
      · cases w <;> simp [Go.ConcR.mk, MemAct.ofEvent, MemAct.touch?] at hb'
        all_goals (subst hb'; exact ⟨X.Wg, hb, .inr (.inr ⟨hSh.1, by simp, fun _ => rfl⟩)⟩)
      · cases w <;> simp [Go.ConcR.mk, MemAct.ofEvent]
  have hlive : WgLive X.ty X.Wg W → WgLive X.ty X.Wg W' := fun _ => ⟨_, _, hwg⟩
  have hcore := h.core.own (Sit' := CSit X Anch Fin tag' S ρ r0') h0 (.inl rfl) hf (fun j y hj hy hs hr => ⟨fun e => absurd e hj, fun e => by
    rw [h.sleeps ok e hy]
    exact (hs.2 e).rely fun _ => ⟨hr, hlive⟩⟩) ⟨fun _ => hct, fun e => absurd rfl e⟩ a.frame.fn a.frame.place
  rw [upd_self] at hcore
  have hrel : Rely (O 0) X.Z W W' := ⟨ha.os, ha.tape, ha.output, by rw [ha.size]; exact Nat.le_refl _, fun b hb => ha.block b (by
    rintro rfl
    rcases hb with hb | hb
    · exact ap.sh 0 _ hb hSh.1
    · exact ap.zsh _ hb hSh.1)⟩
  refine ⟨_, _, runT_crowd_go (P := X.P) (sl := sl) (i := 0) h0 (show stepG X.P (0 == 0) a W = _ from hst), tag', S, ρ, r0', _, W', sl, O, rfl, by simp, rfl, ⟨hcore, fun j hj => by simpa using h.kin j hj, by rw [ha.block X.ct hSh.2]; exact h.shut, ⟨st', sm', hwg, by simpa using hmd⟩, fun j hj hs => ?_, h.other, fun j y hj hy => ?_, h.know.trans hrel⟩, ?_⟩
  · obtain ⟨r, hr⟩ := h.gone j hj hs
    exact ⟨r, hr.other fun op hop => by obtain ⟨e', _, rfl⟩ := Go.Conc.mem_ofEvents hop; have := (h.kin j hj).1; show 0 ≠ j; omega⟩
  · rw [Array.getElem?_setIfInBounds_ne (Ne.symm hj), Array.getElem?_map] at hy
    obtain ⟨z, hz, rfl⟩ := Option.map_eq_some_iff.1 hy
    rw [h.sleeps ok hj hz]
    exact h.nb j z hj hz
  · unfold Phi
    rcases hx with hx | ⟨hx, hs⟩
    · exact .inl (by omega)
    · exact .inr ⟨by omega, .inr ⟨rfl, hs⟩⟩

def WaitEnd (X : Shop) (Fin : Goroutine → Prop) (Shun : Loc → Prop) (W0 : World) (O0 : Nat → Prop) (n : Nat) (m' : Machine) (t' : Trace) : Prop :=
  ∃ gs' W' sl' a', m' = crowd gs' W' sl' ∧ gs'.size = n ∧ gs'[0]? = some a' ∧ Fin a' ∧ Rely O0 X.Z W0 W' ∧ Idle X 0 (fun l => Shun l ∨ onB l X.Wg) (fun _ => False) (fun _ => False) gs' W' t' fun g b => g = 0 ∧ O0 b

theorem Wt.starter (ok : X.Ok) (hA : ∀ g w, Anch g w → g.status = .running) (hSh : Sh X.Wg ∧ X.ct ≠ X.Wg) (hsmall : ∀ S, (∀ j, ¬ K j → S j = 1) → Vc gs.size S < 2147483647) (h : Wt X Anch Fin Shun Sh K W0 tag S ρ r0 gs W t O) (hta : tag = .an → ¬ ∀ w1, RL X W w1 → ∀ a, gs[0]? = some a → Anch a w1) (h0 : gs[0]? = some a) (hrun : a.status = .running) :
    (∃ m' ops, runT X.P (crowd gs W sl) 0 = (.next m', ops) ∧ TurnC X Anch Fin Shun Sh K W0 tag S ρ r0 gs.size t O m' ops) ∨ ∃ m' ops, runT X.P (crowd gs W sl) 0 = (.next m', ops) ∧ WaitEnd X Fin Shun W0 (O 0) gs.size m' (t ++ ops) := by
  obtain ⟨st, sm, hwg, hmd⟩ := h.md
  have hle := hsmall S h.other; have hleN := Vc_le gs.size S
  have same : Aside X.Wg W W := ⟨rfl, rfl, rfl, rfl, fun _ _ => rfl⟩
  have ap := h.core.apart
  obtain ⟨tg, htg, r, hr, d, hd, hct⟩ : ∃ tg, tag = tg ∧ ∃ r, r0 = r ∧ ∃ d, Deaf t 0 = d ∧ CT X Anch Fin tg d r a W := ⟨_, rfl, _, rfl, _, rfl, (h.core.sit 0 a h0).1 rfl⟩
  have onmk : ∀ (m : Mark), (MemAct.mark m).touch? = none → (∀ a, m ≠ .release a) → ∀ e ∈ #[Go.ConcR.mk m], (OnWg X.Wg e ∨ ∃ x ww, e = Go.ConcR.mk (if ww = true then .write x else .read x) ∧ x.block = X.Wg) := fun m h1 h2 e he => by
    simp at he; subst he; exact .inl (onWg_mark m h1 h2)
  have onrd : ∀ e ∈ #[rd (stA X.Wg)], (OnWg X.Wg e ∨ ∃ x ww, e = Go.ConcR.mk (if ww = true then .write x else .read x) ∧ x.block = X.Wg) := fun e he => by
    simp at he; subst he; exact .inl (onWg_cell _ _ rfl)
  have onrw : ∀ e ∈ #[rd (stA X.Wg), wr (stA X.Wg)], (OnWg X.Wg e ∨ ∃ x ww, e = Go.ConcR.mk (if ww = true then .write x else .read x) ∧ x.block = X.Wg) := fun e he => by
    simp at he
    rcases he with rfl | rfl
    · exact .inl (onWg_cell _ _ rfl)
    · exact .inl (onWg_cell _ _ rfl)
  have idle : ∀ {n' : Nat} {g' : Goroutine} {tg' : Tg}, stepG X.P true a W = .go g' W #[] → CT X Anch Fin tg' d (.nat n') g' W → tg' = tag → r0 = .nat (n' + 1) → ∃ m' ops, runT X.P (crowd gs W sl) 0 = (.next m', ops) ∧ TurnC X Anch Fin Shun Sh K W0 tag S ρ r0 gs.size t O m' ops := fun {n' g' tg'} hs hc ht hr0 => by
    subst ht
    exact h.mine ok hSh h0 hs same (by simp) hwg hmd (by rw [hd]; exact hc) (.inr ⟨rfl, by rw [hr0]; exact Rk.sub_nat n'⟩)
  cases hct with
  | @kd m _ _ hg =>
    refine .inl ?_
    rcases hg.cases with hstop | ⟨n', rfl, hstep⟩
    · obtain ⟨_, g', hstp, m', hgo⟩ := hstop W (rl_refl W)
      have hopen : tag.isOpen := by rw [htg]; trivial
      refine h.mine (tag' := .an) ok hSh h0 hstp same (onmk _ rfl (by simp)) hwg ?_ (by rw [hd]; exact .an hgo) (.inl (by rw [htg]; simp only [Tg.ph]; omega))
      cases hmd with
      | opn _ h2 _ => exact .opn trivial h2 fun vs e => by cases e
      | reg h1 => rw [htg] at h1; exact h1.elim
      | last _ h1 => rw [htg] at h1; exact h1.elim
      | sema h1 => rw [htg] at h1; exact h1.elim
      | fin h1 => rw [htg] at h1; exact h1.elim
    · obtain ⟨g', w', es, hstp, ⟨rfl, rfl⟩, hgo⟩ := hstep W (rl_refl W)
      exact idle hstp (.kd hgo) htg.symm hr
  | @an m _ _ hg =>
    refine .inl ?_
    rcases hg.cases with hstop | ⟨n', rfl, hstep⟩
    · exact absurd (fun w1 h1 b hb => by rw [h0] at hb; cases hb; exact hstop w1 h1) (hta htg)
    · obtain ⟨g', w', es, hstp, ⟨rfl, rfl⟩, hgo⟩ := hstep W (rl_refl W)
      exact idle hstp (.an hgo) htg.symm hr
  | @w1 m _ _ hg =>
    refine .inl ?_
    rcases hg.cases with hstop | ⟨n', rfl, hstep⟩
    · obtain ⟨_, hs1⟩ := hstop W (rl_refl W)
      have hopn : ∃ hO : OpenS gs.size S, st = (Vc gs.size S : Nat) * KK ∧ sm = 0 := by
        cases hmd with
        | opn _ h2 _ => exact ⟨h2, rfl, rfl⟩
        | reg h1 => rw [htg] at h1; exact h1.elim
        | last _ h1 => rw [htg] at h1; exact h1.elim
        | sema h1 => rw [htg] at h1; exact h1.elim
        | fin h1 => rw [htg] at h1; exact h1.elim
      obtain ⟨hO, rfl, rfl⟩ := hopn
      obtain ⟨g', hstp, hz, hnz⟩ := hs1 (Vc gs.size S) (by omega) hwg
      by_cases hv : Vc gs.size S = 0
      · obtain ⟨m', hgo⟩ := hz hv
        refine h.mine (tag' := .ke) ok hSh h0 hstp same onrd hwg ?_ (by rw [hd]; exact .ke hgo) (.inl (by rw [htg]; simp only [Tg.ph]; omega))
        have := Md.fin (N := gs.size) (S := S) (tag := .ke) trivial (allOne_of hO hv)
        rw [hv]
        simpa using this
      · obtain ⟨m', hgo⟩ := hnz hv
        exact h.mine (tag' := .w2 (Vc gs.size S)) ok hSh h0 hstp same onrd hwg (.opn trivial hO fun vs e => by cases e; exact ⟨Nat.le_refl _, by omega⟩) (by rw [hd]; exact .w2 hgo) (.inl (by rw [htg]; simp only [Tg.ph]; omega))
    · obtain ⟨g', w', es, hstp, ⟨rfl, rfl⟩, hgo⟩ := hstep W (rl_refl W)
      exact idle hstp (.w1 hgo) htg.symm hr
  | @w2 vs m _ _ hg =>
    refine .inl ?_
    rcases hg.cases with hstop | ⟨n', rfl, hstep⟩
    · obtain ⟨_, hs1⟩ := hstop W (rl_refl W)
      have hopn : ∃ hO : OpenS gs.size S, st = (Vc gs.size S : Nat) * KK ∧ sm = 0 ∧ Vc gs.size S ≤ vs ∧ 1 ≤ vs := by
        cases hmd with
        | opn _ h2 h3 => exact ⟨h2, rfl, rfl, h3 vs htg⟩
        | reg h1 => rw [htg] at h1; exact h1.elim
        | last _ h1 => rw [htg] at h1; exact h1.elim
        | sema h1 => rw [htg] at h1; exact h1.elim
        | fin h1 => rw [htg] at h1; exact h1.elim
      obtain ⟨hO, rfl, rfl, hvs, hv1⟩ := hopn
      obtain ⟨hhit, hmiss⟩ := hs1 (Vc gs.size S) (by omega) hwg
      by_cases hv : Vc gs.size S = vs
      · obtain ⟨g', hstp, m', hgo⟩ := hhit hv
        exact h.mine (tag' := .sw) ok hSh h0 hstp (aside_setCell W (stA X.Wg) _) onrw (hwg.setSt _) (.reg trivial hO (by omega)) (by rw [hd, show deafBehind 1 #[rd (stA X.Wg), wr (stA X.Wg)] = 1 by simp [deafBehind, rd, wr]]; exact .sw hgo) (.inl (by rw [htg]; simp only [Tg.ph]; omega))
      · obtain ⟨g', hstp, m', hgo⟩ := hmiss hv
        exact h.mine (tag' := .an) ok hSh h0 hstp same onrd hwg (.opn trivial hO fun vs e => by cases e) (by rw [hd]; exact .an hgo) (.inl (by rw [htg]; simp only [Tg.ph]; omega))
    · obtain ⟨g', w', es, hstp, ⟨rfl, rfl⟩, hgo⟩ := hstep W (rl_refl W)
      exact idle hstp (.w2 hgo) htg.symm hr
  | @sw m _ _ hg =>
    refine .inl ?_
    rcases hg.cases with hstop | ⟨n', rfl, hstep⟩
    · obtain ⟨_, g', hstp, m', hgo⟩ := hstop W (rl_refl W)
      refine h.mine (tag' := .w3) ok hSh h0 hstp same (fun e he => ?_) hwg ?_ (by rw [hd]; exact .w3 hgo) (.inl (by rw [htg]; simp only [Tg.ph]; omega))
      · simp at he; subst he; exact .inr ⟨smA X.Wg, true, rfl, rfl⟩
      · cases hmd with
        | opn h1 => rw [htg] at h1; exact h1.elim
        | reg _ h2 h3 => exact .reg trivial h2 h3
        | last L _ h2 h3 h4 => exact .last L trivial h2 h3 h4
        | sema _ _ h3 => exact .sema trivial (by simp) h3
        | fin h1 => rw [htg] at h1; exact h1.elim
    · obtain ⟨g', w', es, hstp, ⟨rfl, rfl⟩, hgo⟩ := hstep W (rl_refl W)
      exact idle hstp (.sw hgo) htg.symm hr
  | @w3 m _ _ hg =>
    refine .inl ?_
    rcases hg.cases with hstop | ⟨n', rfl, hstep⟩
    · obtain ⟨_, ho, hblk, htake⟩ := hstop W (rl_refl W)
      have park : sm = 0 → Md gs.size S .bk st sm → ∃ m' ops, runT X.P (crowd gs W sl) 0 = (.next m', ops) ∧ TurnC X Anch Fin Shun Sh K W0 tag S ρ r0 gs.size t O m' ops := fun e hm => by
        subst e
        exact h.mine (tag' := .bk) (r0' := .nat m) ok hSh h0 (hblk ⟨st, hwg⟩) same (by simp) hwg hm (by rw [hd]; exact .bk hstop) (.inr ⟨by rw [htg]; rfl, by rw [hr]; exact Rk.sub_nat m⟩)
      cases hmd with
      | opn h1 => rw [htg] at h1; exact h1.elim
      | reg _ h2 h3 => exact park rfl (.reg trivial h2 h3)
      | last L _ h2 h3 h4 => exact park rfl (.last L trivial h2 h3 h4)
      | sema _ _ h3 =>
        obtain ⟨g', hstp, m', hgo⟩ := htake hwg
        refine h.mine (tag' := .w4) ok hSh h0 hstp (aside_setCell W (smA X.Wg) _) (fun e he => .inl ?_) (hwg.setSm 0) (.fin trivial h3) (by rw [hd, show deafBehind 1 (semEvents (smA X.Wg)) = 1 by simp [deafBehind, semEvents]]; exact .w4 hgo) (.inl (by rw [htg]; simp only [Tg.ph]; omega))
        simp [semEvents] at he
        rcases he with rfl | rfl | rfl | rfl
        · exact onWg_mark .disable rfl (by simp)
        · exact onWg_cell _ _ rfl
        · exact onWg_cell _ _ rfl
        · exact onWg_mark .enable rfl (by simp)
      | fin h1 => rw [htg] at h1; exact h1.elim
    · obtain ⟨g', w', es, hstp, ⟨rfl, rfl⟩, hgo⟩ := hstep W (rl_refl W)
      exact idle (n' := n' + 1) hstp (.w3 hgo) htg.symm hr
  | bk hg => cases hrun
  | @w4 m _ _ hg =>
    refine .inl ?_
    rcases hg.cases with hstop | ⟨n', rfl, hstep⟩
    · obtain ⟨_, hs4⟩ := hstop W (rl_refl W)
      have hfin : AllOne gs.size S ∧ st = 0 ∧ sm = 0 := by
        cases hmd with
        | opn h1 => rw [htg] at h1; exact h1.elim
        | reg h1 => rw [htg] at h1; exact h1.elim
        | last _ h1 => rw [htg] at h1; exact h1.elim
        | sema h1 => rw [htg] at h1; exact h1.elim
        | fin _ h => exact ⟨h, rfl, rfl⟩
      obtain ⟨hall, rfl, rfl⟩ := hfin
      obtain ⟨g', hstp, m', hgo⟩ := hs4 hwg
      exact h.mine (tag' := .ke) ok hSh h0 hstp same onrd hwg (.fin trivial hall) (by rw [hd]; exact .ke hgo) (.inl (by rw [htg]; simp only [Tg.ph]; omega))
    · obtain ⟨g', w', es, hstp, ⟨rfl, rfl⟩, hgo⟩ := hstep W (rl_refl W)
      exact idle hstp (.w4 hgo) htg.symm hr
  | @ke m _ _ hg =>
    refine .inl ?_
    rcases hg.cases with hstop | ⟨n', rfl, hstep⟩
    · obtain ⟨_, g', hstp, m', hgo⟩ := hstop W (rl_refl W)
      refine h.mine (tag' := .aq) ok hSh h0 hstp same (onmk _ rfl (by simp)) hwg ?_ (by rw [hd]; exact .aq hgo) (.inl (by rw [htg]; simp only [Tg.ph]; omega))
      cases hmd with
      | opn h1 => rw [htg] at h1; exact h1.elim
      | reg h1 => rw [htg] at h1; exact h1.elim
      | last _ h1 => rw [htg] at h1; exact h1.elim
      | sema h1 => rw [htg] at h1; exact h1.elim
      | fin _ h => exact .fin trivial h
    · obtain ⟨g', w', es, hstp, ⟨rfl, rfl⟩, hgo⟩ := hstep W (rl_refl W)
      exact idle hstp (.ke hgo) htg.symm hr
  | @aq m _ _ hg =>
    rcases hg.cases with hstop | ⟨n', rfl, hstep⟩
    · obtain ⟨_, g', hstp, hfin⟩ := hstop W (rl_refl W)
      have hall : AllOne gs.size S := by
        cases hmd with
        | opn h1 => rw [htg] at h1; exact h1.elim
        | reg h1 => rw [htg] at h1; exact h1.elim
        | last _ h1 => rw [htg] at h1; exact h1.elim
        | sema h1 => rw [htg] at h1; exact h1.elim
        | fin _ h => exact h
      have hlt : 0 < gs.size := (Array.getElem?_eq_some_iff.1 h0).1
      have ev : MemOp.ofEvents 0 a.frame.fn a.frame.place #[Go.ConcR.mk (.acquire (stA X.Wg))] = #[{ g := 0, fn := a.frame.fn, pos := a.frame.place, act := .mark (.acquire (stA X.Wg)) }] := by
        rw [ofEvents_eq]; simp only [List.map_toArray, List.map_cons, List.map_nil]; rfl
      have hD : ∀ j, Deaf (t ++ MemOp.ofEvents 0 a.frame.fn a.frame.place #[Go.ConcR.mk (.acquire (stA X.Wg))]) j = Deaf t j := fun j => by
        rw [ev]
        exact Deaf_flat (fun op hop => by simp at hop; subst hop; simp) j
      refine .inr ⟨_, _, runT_crowd_go (P := X.P) (sl := sl) (i := 0) h0 (show stepG X.P (0 == 0) a W = _ from hstp), _, W, sl, g', rfl, by simp, by simp [hlt], hfin, h.know, ⟨⟨fun j y hj => ?_, fun j hj => ?_, ?_, ⟨fun g k b hgk hg hk => ?_, fun g b hg hz => ?_, fun g b _ hs => hs.elim, fun b _ hs => hs.elim, fun g b hg => ?_, ap.loZ, fun b hs => hs.elim⟩⟩, fun ⟨_, hk⟩ => hk.elim, fun ⟨_, hk⟩ => hk.elim, fun j hk => hk.elim⟩⟩
      · rw [hD]
        refine ⟨fun e => by subst e; exact hd, fun e => ?_⟩
        rw [Array.getElem?_setIfInBounds_ne (Ne.symm e), Array.getElem?_map] at hj
        obtain ⟨z, hz, rfl⟩ := Option.map_eq_some_iff.1 hj
        rw [h.sleeps ok e hz]
        have hw := (h.core.sit j z hz).2 e
        have hs1 : S j = 1 := hall j (Array.getElem?_eq_some_iff.1 hz).1
        rw [hs1] at hw
        obtain ⟨q, hq⟩ := hw.quits
        exact ⟨_, 1, .quit hq, .inl ⟨rfl, id⟩⟩
      · rw [hD]
        exact h.core.above j (by simpa using hj)
      · rw [ev]
        exact h.core.tok.join (a := stA X.Wg) (fun k hk => h.gone k hk (by have := hall k (h.kin k hk).2; omega)) hd ⟨fun g x => ap.sh g _ x hSh.1, fun x => ap.zsh _ x hSh.1, ap.loS _ hSh.1⟩ _ _
      · exact hgk (hg.1.trans hk.1.symm)
      · exact ap.shr 0 b hg.2 hz
      · exact ap.lo 0 b hg.2
    · obtain ⟨g', w', es, hstp, ⟨rfl, rfl⟩, hgo⟩ := hstep W (rl_refl W)
      exact .inl (idle hstp (.aq hgo) htg.symm hr)

theorem wait_aux (ok : X.Ok) (hA : ∀ g w, Anch g w → g.status = .running) (hAn : ∀ g w, Anch g w → ∃ m, Goes X.P true (RL X) DC0 (S1 X Anch Fin) m g w) (hSh : Sh X.Wg ∧ X.ct ≠ X.Wg) {n : Nat} {O0 : Nat → Prop} (hsmall : ∀ S, (∀ j, ¬ K j → S j = 1) → Vc n S < 2147483647) : ∀ (Φ : Nat) (ρ : Nat → Rk) (r0 : Rk) (tag : Tg) (S : Nat → Nat) (gs : Array Goroutine) (W : World) (t : Trace) (O : Nat → Nat → Prop) (sl : Option (Nat × Nat)), Phi n tag S = Φ → gs.size = n → 0 < n → O 0 = O0 → Wt X Anch Fin Shun Sh K W0 tag S ρ r0 gs W t O →
    Comes X.P (crowd gs W sl) t (WaitEnd X Fin Shun W0 O0 n) := by
  intro Φ
  induction Φ using Nat.strongRecOn with
  | _ Φ ihΦ =>
    intro ρ
    induction ρ using (Dec.wf n).induction with
    | _ ρ ihρ =>
      intro r0
      induction r0 using Rk.wf.induction with
      | _ r0 ihr =>
        intro tag S gs W t O sl hΦ hn hpos hO h
        obtain ⟨a, h0⟩ : ∃ a, gs[0]? = some a := ⟨gs[0]'(by omega), Array.getElem?_eq_getElem (by omega)⟩
        have hct := (h.core.sit 0 a h0).1 rfl
        obtain ⟨st, sm, hwg, hmd⟩ := h.md
        by_cases hanch : tag = .an ∧ ∀ w1, RL X W w1 → Anch a w1
        · obtain ⟨rfl, han⟩ := hanch
          obtain ⟨m, hgo⟩ := hAn a W (han W (rl_refl W))
          have hd : Deaf t 0 = 1 := by
            generalize Deaf t 0 = d at hct
            cases hct with
            | an _ => rfl
          refine ihΦ _ ?_ ρ (.nat m) .w1 S gs W t O sl rfl hn hpos hO ⟨⟨fun j y hj => ⟨fun e => ?_, (h.core.sit j y hj).2⟩, h.core.above, h.core.tok, h.core.apart⟩, h.kin, h.shut, ⟨st, sm, hwg, ?_⟩, h.gone, h.other, h.nb, h.know⟩
          · rw [← hΦ]
            simp only [Phi, Tg.ph]
            omega
          · subst e
            rw [h0] at hj
            cases hj
            rw [hd]
            exact .w1 hgo
          · cases hmd with
            | opn _ h2 _ => exact .opn trivial h2 fun vs e => by cases e
            | reg h1 => exact h1.elim
            | last _ h1 => exact h1.elim
            | sema h1 => exact h1.elim
            | fin h1 => exact h1.elim
        · have haw : ∀ g ∈ gs, awake g := by
            intro g hg
            obtain ⟨i, hi, rfl⟩ := Array.mem_iff_getElem.1 hg
            by_cases hi0 : i = 0
            · subst hi0
              have : gs[0] = a := by simpa [Array.getElem?_eq_getElem hi] using h0
              rw [this]
              rcases hct.status hA with e | ⟨_, e, _⟩
              · exact awake_of (.inl e)
              · exact awake_of (.inr (.inl e))
            · exact ((h.core.sit i _ (Array.getElem?_eq_getElem hi)).2 hi0).awake ok
          have hsome : ∃ (i : Nat) (g : Goroutine), gs[i]? = some g ∧ g.status = .running := by
            rcases hct.status hA with e | ⟨rfl, _, _⟩
            · exact ⟨0, a, h0, e⟩
            · have two : ∀ i, i < gs.size → S i ≠ 1 → ∃ (i : Nat) (g : Goroutine), gs[i]? = some g ∧ g.status = .running := fun i hi hs => by
                have hk : K i := Classical.byContradiction fun hk => hs (h.other i hk)
                have hi0 : i ≠ 0 := by have := (h.kin i hk).1; omega
                have hx : gs[i]? = some gs[i] := Array.getElem?_eq_getElem hi
                exact ⟨i, _, hx, ((h.core.sit i _ hx).2 hi0).runs ok hs (h.nb i _ hi0 hx)⟩
              generalize htg : Tg.bk = tg at hmd
              cases hmd with
              | opn h1 => subst htg; exact h1.elim
              | reg _ _ h3 =>
                obtain ⟨i, hi, h5⟩ := Vc_ex h3
                exact two i hi (by omega)
              | last L _ h2 h3 _ => exact two L h2 (by omega)
              | sema _ h2 _ => exact absurd htg.symm h2
              | fin h1 => subst htg; exact h1.elim
          obtain ⟨i, g, d, sl', hi, hg, hst⟩ := crowd_pick (P := X.P) (w := W) (sl := sl) haw hsome
          have turn : (∃ m' ops, runT X.P (crowd gs (W.at d) sl') i = (.next m', ops) ∧ TurnC X Anch Fin Shun Sh K W0 tag S ρ r0 gs.size t O m' ops) → Comes X.P (crowd gs W sl) t (WaitEnd X Fin Shun W0 O0 n) := by
            rintro ⟨m', ops, hr, tag', S', ρ', r0', gs', W', sl2, O', rfl, hs', hO', hP, hdec⟩
            refine .step (hst.trans hr) ?_
            rcases hdec with hdec | ⟨he, hdec | ⟨rfl, hdec⟩⟩
            · exact ihΦ _ (by rw [← hΦ, ← hn]; exact hdec) ρ' r0' tag' S' gs' W' _ O' sl2 (by rw [hn]) (by omega) hpos (hO'.trans hO) hP
            · exact ihρ ρ' (by rw [← hn]; exact hdec) r0' tag' S' gs' W' _ O' sl2 (by rw [← hΦ, ← hn]; exact he) (by omega) hpos (hO'.trans hO) hP
            · exact ihr r0' hdec tag' S' gs' W' _ O' sl2 (by rw [← hΦ, ← hn]; exact he) (by omega) hpos (hO'.trans hO) hP
          by_cases hi0 : i = 0
          · subst hi0
            rw [h0] at hi
            cases hi
            rcases (h.at d).starter (sl := sl') ok hA hSh (hn.symm ▸ hsmall) (fun e hx => hanch ⟨e, fun w1 h1 => hx w1 h1 _ h0⟩) h0 hg with ht | ⟨m', ops, hr, he⟩
            · exact turn ht
            · rw [hn, hO] at he
              exact .step (hst.trans hr) (.done he)
          · exact turn ((h.at d).worker ok hA hSh (hn.symm ▸ hsmall) hi0 hi hg)
end
end Go.Proofs.YtgcbcagaibecbaaGreatDoor.Pool

namespace Go.Proofs.YtgcbcagaibecbaaGreatDoor.Pool
set_option maxRecDepth 20000
open Go Go.Conc Gap
open Go.ConcN (upd upd_same upd_ne WgLive PayAt RW sumTo)
open Go.ConcR (WgAt stA smA KK Payload DC0 mk rd wr)

section
variable [Payload] {X : Shop} {Anch : Goroutine → World → Prop} {Fin : Goroutine → Prop} {Shun : Loc → Prop} {Sh : Nat → Prop} {gs : Array Goroutine} {W : World} {t : Trace} {O : Nat → Nat → Prop} {sl : Option (Nat × Nat)} {a : Goroutine} {s0 : Nat}

def S9 (s0 N j : Nat) : Nat := if s0 ≤ j ∧ j < N then 9 else 1
theorem Vc_S9 (s0 N : Nat) : ∀ n, n ≤ N → sumTo n (fun i => if 5 ≤ S9 s0 N i then 1 else 0) = n - s0
  | 0, _ => by simp [sumTo]
  | n + 1, h => by
    have := Vc_S9 s0 N n (by omega)
    simp only [sumTo, this]
    by_cases hs : s0 ≤ n
    · have : S9 s0 N n = 9 := if_pos ⟨hs, by omega⟩
      rw [this]
      simp
      omega
    · have : S9 s0 N n = 1 := if_neg fun x => hs x.1
      rw [this]
      simp
      omega

theorem Vc_rest {S : Nat → Nat} : ∀ n, (∀ j, j < s0 → S j = 1) → sumTo n (fun i => if 5 ≤ S i then 1 else 0) ≤ n - s0
  | 0, _ => by simp [sumTo]
  | n + 1, h => by
    have := Vc_rest n h
    simp only [sumTo]
    by_cases hs : s0 ≤ n
    · split <;> omega
    · have := h n (by omega)
      rw [this]
      simp
      omega

theorem shut (ok : X.Ok) (hA : ∀ g w, Anch g w → g.status = .running) (hAn : ∀ g w, Anch g w → ∃ m, Goes X.P true (RL X) DC0 (S1 X Anch Fin) m g w) (hne : X.ct ≠ X.Wg) (hSh : Sh X.ct ∧ Sh X.Wg) (hsmall : gs.size - s0 < 2147483647) (hs0 : 0 < s0)
    (hI : Idle X 0 Shun Sh (fun j => s0 ≤ j ∧ j < gs.size) gs W t O) (hch : Chan X.ct W) (h0 : gs[0]? = some a) (hrun : a.status = .running) (hmay : mayWake X.P a = true) (hwg : WgAt X.ty X.Wg W ((gs.size - s0 : Nat) * KK) 0)
    (hs : ∀ e m tm, (W.at e).heap[X.ct]? = some (.chan 0 #[] false m m tm) → ∃ a' es, stepG X.P true a (W.at e) = .go a' ((W.at e).setChan X.ct 0 #[] true m m tm) es ∧ a'.status = .running ∧ (∀ e ∈ es, e = ⟨.obj X.ct, false, true⟩ ∨ e = ⟨.obj X.ct, true, true⟩) ∧ ∃ n, Goes X.P true (RL X) DC0 (SKd X Anch) n a' ((W.at e).setChan X.ct 0 #[] true m m tm)) :
    Comes X.P (crowd gs W sl) t (WaitEnd X Fin Shun W (O 0) gs.size) := by
  refine (pick (sl := sl) ok hI h0 hrun).bind fun m' t' ⟨gs', W1, sl0, sl1, d, hm, hst, hI', h0', hsz, e, he⟩ => ?_
  subst hm
  obtain ⟨m, tm, hc⟩ := hch
  obtain ⟨a', es, hstep, hrun', hes, n, hgo⟩ := hs e m tm hc
  rw [← he] at hstep hgo
  have hlt : 0 < gs'.size := (Array.getElem?_eq_some_iff.1 h0').1
  have ap := hI'.core.apart
  have hcw : (W1.at d).heap[X.ct]? = some (.chan 0 #[] false m m tm) := by rw [he]; exact hc
  have hctl : X.ct < (W1.at d).heap.size := (Array.getElem?_eq_some_iff.1 hcw).1
  generalize hW' : (W1.at d).setChan X.ct 0 #[] true m m tm = W' at hstep hgo
  have hother : ∀ b, b ≠ X.ct → W'.heap[b]? = (W1.at d).heap[b]? := fun b hb => by
    rw [← hW']
    simp only [World.setChan, Array.getElem?_setIfInBounds_ne (Ne.symm hb)]
  have hclosed : W'.heap[X.ct]? = some (.chan 0 #[] true m m tm) := by
    rw [← hW']
    simp only [World.setChan]
    exact Array.getElem?_setIfInBounds_self_of_lt hctl
  have hsize : W'.heap.size = (W1.at d).heap.size := by rw [← hW']; simp [World.setChan]
  have hf : Fine Sh X.Z (O 0) (O 0) 0 (W1.at d) W' es := by
    refine ⟨by rw [← hW']; rfl, by rw [← hW']; rfl, by rw [← hW']; rfl, by rw [hsize]; exact Nat.le_refl _, fun b _ _ hb => hother b fun e => hb (e ▸ hSh.1), fun b hb => ⟨.inl hb, by rw [hsize]; exact ap.lo 0 b hb⟩, fun e' he' => ?_⟩
    rcases hes e' he' with rfl | rfl
    · refine ⟨fun b hb => ?_, by simp [MemAct.ofEvent]⟩
      simp only [MemAct.ofEvent, MemAct.touch?, Option.some.injEq] at hb
      subst hb
      exact ⟨X.ct, rfl, .inr (.inr ⟨hSh.1, by simp, by simp⟩)⟩
    · exact ⟨fun b hb => by simp [MemAct.ofEvent, MemAct.touch?] at hb, by simp [MemAct.ofEvent]⟩
  have hflat : deafBehind 0 es = 0 := deafBehind_still (fun e' he' => by rcases hes e' he' with rfl | rfl <;> simp) 0
  have hwk : ∀ x : Goroutine, Go.Conc.woken X.P a a' W' x = x.again W' := fun x => by
    unfold Go.Conc.woken
    rw [if_pos (by rw [hmay, hrun']; rfl)]
  have hlive : WgLive X.ty X.Wg (W1.at d) → WgLive X.ty X.Wg W' := fun ⟨st, sm, x⟩ => ⟨st, sm, (hother _ (Ne.symm hne)).trans x⟩
  have wake : ∀ j x, j ≠ 0 → gs'[j]? = some x → ESit X (fun j => s0 ≤ j ∧ j < gs.size) 0 j (Deaf t' j) (O j) x (W1.at d) → Rely (O j) X.Z (W1.at d) W' → (∃ r, WS X (S9 s0 gs.size j) none r (Deaf t' j) (O j) (x.again W') W') ∧ (x.again W').status ≠ .blocked := fun j x hj hx hs hr => by
    obtain ⟨r, st, hw, hc⟩ := hs.2 hj
    have hoth : Oth X.ty X.Wg (O j) X.Z (W1.at d) W' := ⟨hr, hlive⟩
    rcases hc with ⟨rfl, hk⟩ | ⟨rfl, hk⟩
    · obtain ⟨q, hq⟩ := hw.quits
      have e9 : S9 s0 gs.size j = 1 := if_neg hk
      rw [again_running _ hq.status, e9]
      exact ⟨⟨_, .quit hq⟩, by rcases hq.status with e | e <;> rw [e] <;> simp⟩
    · have e9 : S9 s0 gs.size j = 9 := if_pos hk
      rw [e9]
      rcases (hw.nine ok).2 with e | ⟨_, C, g, rfl, hAR, hC⟩ | ⟨i, C, v, g, hx, _⟩
      · rw [again_running _ (.inl e)]
        exact ⟨⟨r, hw.rely fun _ => hoth⟩, by rw [e]; simp⟩
      · rw [again_recv_closed hclosed, (hw.nine ok).1]
        exact ⟨⟨r.succ, .wake (fun w1 h1 => hAR w1 ((hoth.ro hC).trans h1)) hC⟩, by simp⟩
      · cases hx
  have hcore := hI'.core.own (Sit' := fun j d Oj x W => (j = 0 → CT X Anch Fin .kd d (.nat n) x W) ∧ (j ≠ 0 → (∃ r, WS X (S9 s0 gs.size j) none r d Oj x W) ∧ x.status ≠ .blocked)) h0' (.inl rfl) hf (fun j x hj hx hs hr => ⟨fun e => absurd e hj, fun e => by
    rw [hwk]
    exact wake j x e hx hs hr⟩) ⟨fun _ => by
      rw [(hI'.core.sit 0 a h0').1 rfl, hflat]
      exact .kd hgo, fun e => absurd rfl e⟩ a.frame.fn a.frame.place
  rw [upd_self] at hcore
  have hrunT := runT_crowd_go (P := X.P) (sl := sl1) (i := 0) h0' (show stepG X.P (0 == 0) a (W1.at d) = _ from hstep)
  refine .step (hst.trans hrunT) ?_
  generalize hgs2 : (gs'.map (Go.Conc.woken X.P a a' W')).setIfInBounds 0 a' = gs2 at hcore ⊢
  have hsz2 : gs2.size = gs.size := by rw [← hgs2]; simp [hsz]
  have key : ∀ j, ∃ r, ∀ x, gs2[j]? = some x → j ≠ 0 → WS X (S9 s0 gs.size j) none r (Deaf (t' ++ MemOp.ofEvents 0 a.frame.fn a.frame.place es) j) (O j) x W' := fun j => by
    cases hj : gs2[j]? with
    | none => exact ⟨.leaf, fun x hx => by cases hx⟩
    | some y =>
      by_cases hj0 : j = 0
      · exact ⟨.leaf, fun _ _ hn => absurd hj0 hn⟩
      · obtain ⟨r, hw⟩ := ((hcore.sit j y hj).2 hj0).1
        exact ⟨r, fun x hx _ => by cases hx; exact hw⟩
  refine wait_aux (K := fun j => s0 ≤ j ∧ j < gs.size) (n := gs.size) ok hA hAn ⟨hSh.2, hne⟩ (fun S hS => Nat.lt_of_le_of_lt (Vc_rest gs.size fun j hj => hS j fun x => by omega) hsmall) _ (fun j => (key j).choose) (.nat n) .kd (S9 s0 gs.size) gs2 W' _ O sl1 rfl hsz2 (by omega) rfl
    ⟨⟨fun j x hj => ⟨(hcore.sit j x hj).1, (key j).choose_spec x hj⟩, hcore.above, hcore.tok, hcore.apart⟩, fun j hj => ⟨by omega, by rw [hsz2]; exact hj.2⟩, ⟨m, m, tm, hclosed⟩, ⟨_, _, (hother X.Wg (Ne.symm hne)).trans (by rw [he]; exact hwg), ?_⟩, fun j hj h6 => ?_, fun j hj => if_neg hj, fun j x hj hx => ((hcore.sit j x hx).2 hj).2, ?_⟩
  · have hv : Vc gs2.size (S9 s0 gs.size) = gs.size - s0 := by rw [hsz2]; exact Vc_S9 s0 gs.size gs.size (Nat.le_refl _)
    have := Md.opn (N := gs2.size) (S := S9 s0 gs.size) (tag := .kd) trivial (fun i _ => by unfold S9; split <;> simp) fun vs e => by cases e
    rw [hv] at this
    exact this
  · have : S9 s0 gs.size j = 9 := if_pos hj
    omega
  · rw [← hW', he]
    exact rely_chan (fun x => ap.sh 0 _ x hSh.1) (fun x => ap.zsh _ x hSh.1) e m m true
end
end Go.Proofs.YtgcbcagaibecbaaGreatDoor.Pool

namespace Go.Proofs.YtgcbcagaibecbaaGreatDoor.Pool
set_option maxRecDepth 20000
open Go Go.Conc Gap
open Go.ConcN (upd upd_same upd_ne WgLive)
open Go.ConcR (WgAt stA smA KK Payload DC0 mk rd wr)

def QSit (P : Program) (j d : Nat) (_ : Nat → Prop) (x : Goroutine) (_ : World) : Prop := (j = 0 → d = 0) ∧ (j ≠ 0 → ∃ q, QuitsD P q d x)
structure Calm (P : Program) (Z : Nat → Prop) (Shun : Loc → Prop) (gs : Array Goroutine) (W : World) (t : Trace) (O : Nat → Prop) : Prop where
  core : Core Shun (fun _ => False) Z (fun _ => False) (QSit P) gs W t (fun g b => g = 0 ∧ O b)

@[reducible] def onLeaps : Leaps := ⟨fun P main Z O g W T => main = true → ∀ (Shun : Loc → Prop) (gs : Array Goroutine) (t : Trace) (sl : Option (Nat × Nat)), Calm P Z Shun gs W t O → gs[0]? = some g →
  Comes P (crowd gs W sl) t fun m' t' => ∃ Shun' gs' W' sl' O' g', m' = crowd gs' W' sl' ∧ Calm P Z Shun' gs' W' t' O' ∧ gs'[0]? = some g' ∧ T O' g' W' ∧ ∀ b, Z b → W'.heap[b]? = W.heap[b]?⟩

def X0 (P : Program) (Z : Nat → Prop) : Shop := { P, Z, ct := 0, cb := 0, zt := undef, zb := undef, zr := undef, ty := 0, Wg := 0, many := 0, AR := fun _ _ _ => False, AS := fun _ _ _ _ _ => False, Res := fun _ _ _ _ => False }

section
variable [Payload] {P : Program} {Z : Nat → Prop} {Shun : Loc → Prop} {gs : Array Goroutine} {W W' : World} {t : Trace} {O O' : Nat → Prop} {sl : Option (Nat × Nat)} {g g' : Goroutine} {es : Array Event}
theorem x0_ok : (X0 P Z).Ok := ⟨fun _ _ _ h => h.elim, fun _ _ _ _ _ h => h.elim⟩
theorem Calm.idle (h : Calm P Z Shun gs W t O) : Idle (X0 P Z) 0 Shun (fun _ => False) (fun _ => False) gs W t (fun g b => g = 0 ∧ O b) :=
  ⟨⟨fun j x hj => ⟨(h.core.sit j x hj).1, fun h0 => let ⟨q, hq⟩ := (h.core.sit j x hj).2 h0; ⟨_, 1, .quit hq, .inl ⟨rfl, id⟩⟩⟩, h.core.above, h.core.tok, h.core.apart⟩, fun ⟨_, h⟩ => h.elim, fun ⟨_, h⟩ => h.elim, fun _ h => h.elim⟩
theorem calm_of_idle {X : Shop} (hP : X.P = P) (hZ : X.Z = Z) (h : Idle X 0 Shun (fun _ => False) (fun _ => False) gs W t (fun g b => g = 0 ∧ O b)) : Calm P Z Shun gs W t O := by
  subst hP hZ
  refine ⟨⟨fun j x hj => ⟨(h.core.sit j x hj).1, fun h0 => ?_⟩, h.core.above, h.core.tok, h.core.apart⟩⟩
  obtain ⟨r, st, hw, hc⟩ := (h.core.sit j x hj).2 h0
  rcases hc with ⟨rfl, _⟩ | ⟨_, hk⟩
  · exact hw.quits
  · exact hk.elim

theorem spine {Stop : (Nat → Prop) → Goroutine → World → Prop} (h : @Gap.Way onLeaps P true Z Stop O g W) : ∀ (Shun : Loc → Prop) (gs : Array Goroutine) (t : Trace) (sl : Option (Nat × Nat)), Calm P Z Shun gs W t O → gs[0]? = some g →
    Comes P (crowd gs W sl) t fun m' t' => ∃ Shun' gs' W' sl' O' g', m' = crowd gs' W' sl' ∧ Calm P Z Shun' gs' W' t' O' ∧ gs'[0]? = some g' ∧ (∀ W1, Rely O' Z W' W1 → Stop O' g' W1) ∧ ∀ b, Z b → W'.heap[b]? = W.heap[b]? := by
  induction h with
  | @stop O g W h => exact fun Shun gs t sl hC h0 => .done ⟨Shun, gs, W, sl, O, g, rfl, hC, h0, h, fun _ _ => rfl⟩
  | @leap O g W T hs hl _ ih =>
    intro Shun gs t sl hC h0
    refine (hl W (.refl W) rfl Shun gs t sl hC h0).bind fun m' t' ⟨Shun', gs', W', sl', O', g', hm, hC', h0', hT, hz⟩ => ?_
    subst hm
    exact (ih O' g' W' hT Shun' gs' t' sl' hC' h0').mono fun m2 t2 ⟨Shun2, gs2, W2, sl2, O2, g2, e1, e2, e3, e4, e5⟩ => ⟨Shun2, gs2, W2, sl2, O2, g2, e1, e2, e3, e4, fun b hb => (e5 b hb).trans (hz b hb)⟩
  | @step O g W hs hg hk ih =>
    intro Shun gs t sl hC h0
    refine (take (X := X0 P Z) (sl := sl) (d1 := 0) (Q := fun a' W' es O' => ∃ e, stepG P true g (W.at e) = .go a' W' es ∧ O' = grow O (W.at e) W') x0_ok hs hC.idle h0 fun e => ?_).bind fun m' t' ⟨gs', W', sl', O', a', es, hm, hI', h0', hsz, e, hst, hO⟩ => ?_
    · obtain ⟨a', W', es, hst, hgu⟩ := hg (W.at e) (rely_at W e)
      refine ⟨a', W', es, grow O (W.at e) W', hst, ?_, flat_evOk hgu.evs 0, fun ⟨_, h⟩ => h.elim, fun ⟨_, h⟩ => h.elim, e, hst, rfl⟩
      have := Fine.of (g := 0) (Sh := fun _ => False) hgu (fun b hb => hC.core.apart.lo 0 b ⟨rfl, hb⟩)
      have e0 : (fun b => (0 : Nat) = 0 ∧ O b) = O := by funext b; simp
      show Fine _ _ (fun b => (0 : Nat) = 0 ∧ O b) _ _ _ _ _
      rw [e0]
      exact this
    · subst hm
      have e0 : upd (fun g b => g = 0 ∧ O b) 0 O' = fun g b => g = 0 ∧ O' b := by
        funext x b
        by_cases hx : x = 0
        · subst hx; rw [upd_same]; simp
        · rw [upd_ne _ _ hx]; simp [hx]
      rw [e0] at hI'
      subst hO
      have hgu := hg (W.at e) (rely_at W e)
      obtain ⟨a2, W2, es2, hst2, hgu⟩ := hgu
      rw [hst] at hst2
      injection hst2 with e1 e2 e3
      subst e1 e2 e3
      refine (ih (W.at e) a' W' es (rely_at W e) hst Shun gs' t' sl' (calm_of_idle rfl rfl hI') h0').mono fun m2 t2 ⟨Shun2, gs2, W2, sl2, O2, g2, e1, e2, e3, e4, e5⟩ => ⟨Shun2, gs2, W2, sl2, O2, g2, e1, e2, e3, e4, fun b hb => (e5 b hb).trans ?_⟩
      exact hgu.keep b (hC.core.apart.loZ b hb) fun h => hC.core.apart.shr 0 b ⟨rfl, h⟩ hb

def TopStop (P : Program) (Z : Nat → Prop) (Post : Value → World → Prop) (O : Nat → Prop) (g : Goroutine) (W : World) : Prop := g.status = .running ∧ ∃ v W' es, stepG P true g W = .ended (.done v) W' es ∧ Guar O Z W W' es ∧ Post v W'
theorem top_end {Post : Value → World → Prop} (hC : Calm P Z Shun gs W t O) (h0 : gs[0]? = some g) (h : ∀ W1, Rely O Z W W1 → TopStop P Z Post O g W1) :
    ∃ N last o w' t', runNT P (N + 1) (crowd gs W sl) t = (.ended o w', t') ∧ runN P N (crowd gs W sl) = .next last ∧ step P last = .ended o w' ∧ Good P Post last o w' t' := by
  obtain ⟨N, m', t', hrun, gs', W1, sl0, sl1, d, hm, hst, hI', h0', hsz, e, he⟩ := pick (X := X0 P Z) (sl := sl) x0_ok hC.idle h0 (h W (.refl W)).1
  subst hm
  replace hrun : runNT P N (crowd gs W sl) t = (.next (crowd gs' W1 sl0), t') := hrun
  obtain ⟨_, v, W', es, hstep, hgu, hpost⟩ := h (W1.at d) (by rw [he]; exact rely_at W e)
  have hrunT := Go.ConcN.runT_crowd_ended (P := P) (sl := sl1) (i := 0) h0' (show stepG P (0 == 0) g (W1.at d) = _ from hstep)
  have hst' : stepT P (crowd gs' W1 sl0) = (.ended (.done v) W', MemOp.ofEvents 0 g.frame.fn g.frame.place es) := hst.trans hrunT
  have hends : runNT P (N + 1) (crowd gs W sl) t = (.ended (.done v) W', t' ++ MemOp.ofEvents 0 g.frame.fn g.frame.place es) := by
    rw [runNT_add, hrun]
    simp only [runNT, hst']
  refine ⟨N, crowd gs' W1 sl0, .done v, W', _, hends, ?_, ?_, v, rfl, hpost, ?_⟩
  · rw [← runNT_fst P _ _ t, hrun]
  · have := runNT_fst P (N + 1) (crowd gs W sl) t
    rw [hends, runN_add, ← runNT_fst P _ _ t, hrun] at this
    simp only [runN] at this
    revert this
    cases step P (crowd gs' W1 sl0) <;> simp +contextual [eq_comm]
  · have hlo : ∀ b, (fun b => (0 : Nat) = 0 ∧ O b) b → b < (W1.at d).heap.size := fun b hb => hI'.core.apart.lo 0 b hb
    have e0 : (fun b => (0 : Nat) = 0 ∧ O b) = O := by funext b; simp
    have hf : Fine (fun _ => False) Z O (grow O (W1.at d) W') 0 (W1.at d) W' es := Fine.of hgu (fun b hb => hlo b ⟨rfl, hb⟩)
    have hu : ∀ op ∈ MemOp.ofEvents 0 g.frame.fn g.frame.place es, op.g = 0 := fun op hop => by obtain ⟨e, _, rfl⟩ := Go.Conc.mem_ofEvents hop; rfl
    have htok := hI'.core.tok.step (u := MemOp.ofEvents 0 g.frame.fn g.frame.place es) (O' := fun x b => if x = 0 then grow O (W1.at d) W' b else x = 0 ∧ O b) hI'.core.apart (.inl rfl) hf.size (fun x b hx => by simp [hx]) (fun b hb => by
      simp only [if_true] at hb
      have := hf.own b hb
      exact ⟨this.1.imp (fun x => ⟨rfl, x⟩) id, this.2⟩) fun op hop => by
      obtain ⟨e, he, rfl⟩ := Go.Conc.mem_ofEvents hop
      exact ⟨rfl, fun b hb => by simp only [if_true]; exact (hf.evs e he).1 b hb, (hf.evs e he).2⟩
    refine ⟨htok.clean, fun i x hi hx hc => htok.over i x hi hx id hc, ⟨fun x hx => ?_, rfl⟩, fun i x hi hi0 => ?_⟩
    · rw [List.mem_iff_getElem?] at hx
      obtain ⟨j, hj⟩ := hx
      rw [List.getElem?_drop] at hj
      have hj' : gs'[1 + j]? = some x := by simpa [crowd] using hj
      obtain ⟨r, st, hw, hc⟩ := (hI'.core.sit (1 + j) x hj').2 (by omega)
      rcases hc with ⟨rfl, _⟩ | ⟨_, hk⟩
      · obtain ⟨q, hq⟩ := hw.quits
        exact ⟨q, hq.leaves⟩
      · exact hk.elim
    · obtain ⟨r, st, hw, hc⟩ := (hI'.core.sit i x hi).2 hi0
      rcases hc with ⟨rfl, _⟩ | ⟨_, hk⟩
      · obtain ⟨q, hq⟩ := hw.quits
        have hd : Deaf (t' ++ MemOp.ofEvents 0 g.frame.fn g.frame.place es) i = Deaf t' i := Deaf_other t' (Ne.symm hi0) _ hu
        refine ⟨q, ?_⟩
        show x.endsWith P _ q (Deaf _ i) = _
        rw [hd]
        exact hq.hears _
      · exact hk.elim
end
end Go.Proofs.YtgcbcagaibecbaaGreatDoor.Pool

namespace Go.Proofs.YtgcbcagaibecbaaGreatDoor.Pool
set_option maxRecDepth 20000
open Go Go.Conc Gap
open Go.ConcN (upd upd_same upd_ne WgLive)
open Go.ConcR (WgAt stA smA KK Payload DC0 mk rd wr)

section
variable [Payload] {X : Shop} {Z : Nat → Prop} {Sh : Nat → Prop} {Shun : Loc → Prop} {gs : Array Goroutine} {W W' : World} {t : Trace} {O O' : Nat → Prop}
theorem calm_share (hZ : ∀ b, X.Z b ↔ Z b ∨ (O b ∧ ¬ Sh b)) (hSh : ∀ b, Sh b → O b) (h : Calm X.P Z Shun gs W t O) : Idle X 0 Shun Sh (fun _ => False) gs W t (fun _ _ => False) := by
  have ap := h.core.apart
  refine ⟨⟨fun j x hj => ⟨(h.core.sit j x hj).1, fun h0 => let ⟨q, hq⟩ := (h.core.sit j x hj).2 h0; ⟨_, 1, .quit hq, .inl ⟨rfl, id⟩⟩⟩, h.core.above,
    h.core.tok.share (fun _ h => h) (Nat.le_refl _) (fun b hb => .inr (.inr ⟨rfl, hSh b hb⟩)) (fun b hb => ((hZ b).1 hb).imp id fun x => ⟨rfl, x.1⟩) (fun _ _ h => h.elim) fun _ => Iff.rfl,
    ⟨fun _ _ _ _ h => h.elim, fun _ _ h => h.elim, fun _ _ h => h.elim, fun b hb hs => ?_, fun _ _ h => h.elim, fun b hb => ?_, fun b hb => ap.lo 0 b ⟨rfl, hSh b hb⟩⟩⟩, fun ⟨_, h⟩ => h.elim, fun ⟨_, h⟩ => h.elim, fun _ h => h.elim⟩
  · rcases (hZ b).1 hb with h1 | h1
    · exact ap.shr 0 b ⟨rfl, hSh b hs⟩ h1
    · exact h1.2 hs
  · rcases (hZ b).1 hb with h1 | h1
    · exact ap.loZ b h1
    · exact ap.lo 0 b ⟨rfl, h1.1⟩
omit [Payload] in
theorem onB.mem {l : Loc} {b : Nat} (h : onB l b) : l.isMemory = true := by
  unfold onB at h
  split at h
  · rfl
  · rfl
  · exact h.elim
theorem idle_calm (hZ : ∀ b, Z b → X.Z b) (h : Idle X 0 Shun (fun _ => False) (fun _ => False) gs W t (fun g b => g = 0 ∧ O b)) : Calm X.P Z Shun gs W t (fun b => O b ∨ (X.Z b ∧ ¬ Z b)) := by
  have ap := h.core.apart
  have tk := h.core.tok
  refine ⟨⟨fun j x hj => ⟨(h.core.sit j x hj).1, fun h0 => ?_⟩, h.core.above, ⟨tk.clean, fun g b hg i a ha hl => ?_, fun g hg b hz i a ha hl hw => tk.shr g hg b (hZ b hz) i a ha hl hw, fun _ h => h.elim, tk.low, tk.known, tk.over, tk.norel, fun l b hl hb => ?_⟩,
    ⟨fun g k b hgk hg hk => ?_, fun g b hg hz => ?_, fun _ _ _ h => h, fun _ _ h => h, fun g b hg => ?_, fun b hz => ap.loZ b (hZ b hz), fun _ h => h.elim⟩⟩⟩
  · obtain ⟨r, st, hw, hc⟩ := (h.core.sit j x hj).2 h0
    rcases hc with ⟨rfl, _⟩ | ⟨_, hk⟩
    · exact hw.quits
    · exact hk.elim
  · obtain ⟨rfl, hb | ⟨hb, _⟩⟩ := hg
    · exact tk.own 0 b ⟨rfl, hb⟩ i a ha hl
    · rcases tk.known i a ha hl.mem with h1 | ⟨_, h1, _⟩ | ⟨h1, _⟩
      · exact h1
      · exact h1.elim
      · exact absurd hb (tk.off _ b h1 hl).2.1
  · obtain ⟨h1, h2, h3⟩ := tk.off l b hl hb
    exact ⟨fun g hg => hg.2.elim (fun x => h1 0 ⟨rfl, x⟩) fun x => h2 x.1, fun x => h2 (hZ b x), h3⟩
  · exact hgk (hg.1.trans hk.1.symm)
  · obtain ⟨rfl, hb | ⟨_, hb⟩⟩ := hg
    · exact ap.shr 0 b ⟨rfl, hb⟩ (hZ b hz)
    · exact hb hz
  · obtain ⟨rfl, hb | ⟨hb, _⟩⟩ := hg
    · exact ap.lo 0 b ⟨rfl, hb⟩
    · exact ap.loZ b hb
end
end Go.Proofs.YtgcbcagaibecbaaGreatDoor.Pool

namespace Go.Proofs.YtgcbcagaibecbaaGreatDoor.Pool
set_option maxRecDepth 20000
open Go Go.Conc Gap Go.RowKit Go.Conc.Lib Go.ConcR.Gen Go.ConcN.Gen
open Go.ConcN (upd upd_same upd_ne WgLive)
open Go.ConcR (WgAt stA smA KK Payload DC0 mk rd wr)

def OnW0 (Wg : Nat) (e : Event) : Prop := OnWg Wg e ∨ ∃ x ww, e = mk (if ww = true then .write x else .read x) ∧ x.block = Wg
theorem fine_w0 {X : Shop} {Sh O : Nat → Prop} {W W' : World} {es : Array Event} (hlo : ∀ b, O b → b < W.heap.size) (hSh : Sh X.Wg) (ha : Aside X.Wg W W') (hes : ∀ e ∈ es, OnW0 X.Wg e) : Fine Sh X.Z O O 0 W W' es := by
  refine ⟨ha.os, ha.tape, ha.output, by rw [ha.size]; exact Nat.le_refl _, fun b _ _ hb => ha.block b fun e => hb (e ▸ hSh), fun b hb => ⟨.inl hb, by rw [ha.size]; exact hlo b hb⟩, fun e he => ?_⟩
  rcases hes e he with h1 | ⟨x, w, rfl, hb⟩
  · exact (fine_wg (W := W) (W' := W) (es := #[e]) (j := 0) hlo hSh ⟨rfl, rfl, rfl, rfl, fun _ _ => rfl⟩ (by simpa using h1)).evs e (by simp)
  · refine ⟨fun b hb' => ?_, ?_⟩
    · cases w <;> simp [mk, MemAct.ofEvent, MemAct.touch?] at hb'
      all_goals (subst hb'; exact ⟨X.Wg, hb, .inr (.inr ⟨hSh, by simp, fun _ => rfl⟩)⟩)
    · cases w <;> simp [mk, MemAct.ofEvent]

inductive Run1 (P : Program) (ty : TypeId) (Wg : Nat) (Fin : Nat → Goroutine → World → Prop) : Nat → Goroutine → World → Prop
  | fin {d : Nat} {g : Goroutine} {W : World} : (∀ e, Fin d g (W.at e)) → Run1 P ty Wg Fin d g W
  | step {d : Nat} {g : Goroutine} {W : World} : g.status = .running →
      (∀ e, ∃ g' W' es, stepG P true g (W.at e) = .go g' W' es ∧ Aside Wg (W.at e) W' ∧ (WgLive ty Wg (W.at e) → WgLive ty Wg W') ∧ ∀ x ∈ es, OnW0 Wg x) →
      (∀ e g' W' es, stepG P true g (W.at e) = .go g' W' es → Run1 P ty Wg Fin (deafBehind d es) g' W') → Run1 P ty Wg Fin d g W

section
variable [Payload] {P : Program} {ty : TypeId} {Wg : Nat} {Fin : Nat → Goroutine → World → Prop} {d d' : Nat} {g g' : Goroutine} {w w1 W : World} {es : Array Event}
theorem Run1.of_goes : ∀ (m : Nat) (g : Goroutine) (w : World), Goes P true AtRel DC0 (Run1 P ty Wg Fin d) m g w → Run1 P ty Wg Fin d g w
  | 0, g, w, h => h w ⟨w.drawn, rfl⟩
  | m + 1, g, w, h => by
    rcases h with h | ⟨hs, h⟩
    · exact h w ⟨w.drawn, rfl⟩
    · refine .step hs (fun e => ?_) fun e g' W' es hst => ?_
      · obtain ⟨g', w', es, hst, ⟨rfl, rfl⟩, _⟩ := goes_elim (h (w.at e) ⟨e, rfl⟩)
        exact ⟨g', _, _, hst, ⟨rfl, rfl, rfl, rfl, fun _ _ => rfl⟩, id, by simp⟩
      · obtain ⟨g2, w2, es2, hst2, ⟨rfl, rfl⟩, hg⟩ := goes_elim (h (w.at e) ⟨e, rfl⟩)
        rw [hst] at hst2
        injection hst2 with e1 e2 e3
        subst e1 e2 e3
        exact of_goes m _ _ hg
theorem onW0_mark (m : Mark) (ht : (MemAct.mark m).touch? = none) (hr : ∀ a, m ≠ .release a) : OnW0 Wg (mk m) := .inl (.inr ⟨m, rfl, ht, hr⟩)
theorem Run1.mono {Fin' : Nat → Goroutine → World → Prop} (h : Run1 P ty Wg Fin d g W) (hf : ∀ d g w, Fin d g w → Fin' d g w) : Run1 P ty Wg Fin' d g W := by
  induction h with
  | fin h => exact .fin fun e => hf _ _ _ (h e)
  | step hs h _ ih => exact .step hs h ih
theorem Run1.next {F : World → World} (hs : g.status = .running) (h : ∀ e, stepG P true g (W.at e) = .go g' (F (W.at e)) es ∧ Aside Wg (W.at e) (F (W.at e)) ∧ (WgLive ty Wg (W.at e) → WgLive ty Wg (F (W.at e)))) (hes : ∀ x ∈ es, OnW0 Wg x) (hd : deafBehind d es = d') (hk : ∀ e, Run1 P ty Wg Fin d' g' (F (W.at e))) : Run1 P ty Wg Fin d g W :=
  .step hs (fun e => ⟨_, _, _, (h e).1, (h e).2.1, (h e).2.2, hes⟩) fun e g2 W2 es2 hst => by
    rw [(h e).1] at hst
    injection hst with e1 e2 e3
    subst e1 e2 e3
    rw [hd]
    exact hk e
theorem Run1.mark (m : Mark) (hs : g.status = .running) (h : ∀ e, stepG P true g (W.at e) = .go g' (W.at e) #[mk m]) (hm : OnW0 Wg (mk m)) (hd : deafBehind d #[mk m] = d') (hk : ∀ e, Run1 P ty Wg Fin d' g' (W.at e)) : Run1 P ty Wg Fin d g W :=
  .next (F := id) hs (fun e => ⟨h e, ⟨rfl, rfl, rfl, rfl, fun _ _ => rfl⟩, id⟩) (fun x hx => by simp at hx; subst hx; exact hm) hd hk

variable {X : Shop} {Shun : Loc → Prop} {Sh K : Nat → Prop} {gs : Array Goroutine} {t : Trace} {O : Nat → Nat → Prop} {sl : Option (Nat × Nat)}
omit [Payload] in
theorem aside_trans {a b c : World} (h : Aside Wg a b) (k : Aside Wg b c) : Aside Wg a c := ⟨k.tape.trans h.tape, k.os.trans h.os, k.output.trans h.output, k.size.trans h.size, fun x hx => (k.block x hx).trans (h.block x hx)⟩
omit [Payload] in
theorem aside_at (e : Nat) : Aside Wg W (W.at e) := ⟨rfl, rfl, rfl, rfl, fun _ _ => rfl⟩
theorem beside_run1 (ok : X.Ok) (hSh : Sh X.Wg) (hne : X.ct ≠ X.Wg) {a : Goroutine} (h : Run1 X.P X.ty X.Wg Fin d a W) : ∀ (gs : Array Goroutine) (t : Trace) (sl : Option (Nat × Nat)), Idle X d Shun Sh K gs W t O → gs[0]? = some a →
    Comes X.P (crowd gs W sl) t fun m' t' => ∃ gs' W' sl' a' d', m' = crowd gs' W' sl' ∧ Idle X d' Shun Sh K gs' W' t' O ∧ gs'[0]? = some a' ∧ gs'.size = gs.size ∧ Aside X.Wg W W' ∧ ∀ e, Fin d' a' (W'.at e) := by
  induction h with
  | @fin d a W h => exact fun gs t sl hI h0 => .done ⟨gs, W, sl, a, d, rfl, hI, h0, rfl, ⟨rfl, rfl, rfl, rfl, fun _ _ => rfl⟩, h⟩
  | @step d a W hs hst hk ih =>
    intro gs t sl hI h0
    refine (pick (sl := sl) ok hI h0 hs).bind fun m' t' ⟨gs', W1, sl0, sl1, dr, hm, hst1, hI', h0', hsz, e, he⟩ => ?_
    subst hm
    obtain ⟨a', W', es, hstep, has, hl, hev⟩ := hst e
    have ih := ih e a' W' es hstep
    rw [← he] at hstep has hl
    have hrunT := runT_crowd_go (P := X.P) (sl := sl1) (i := 0) h0' (show stepG X.P (0 == 0) a (W1.at dr) = _ from hstep)
    have hI2 := hI'.own (a' := a') ok h0' (fine_w0 (fun b hb => hI'.core.apart.lo 0 b hb) hSh has hev) rfl (fun _ => hl) (fun hk => by
      obtain ⟨m, tm, x⟩ := hI'.chan hk
      exact ⟨m, tm, (has.block _ hne).trans x⟩) a.frame.fn a.frame.place
    rw [upd_self] at hI2
    have hlt : 0 < gs'.size := (Array.getElem?_eq_some_iff.1 h0').1
    refine .step (hst1.trans hrunT) ((ih _ _ sl1 hI2 (by simp [hlt])).mono fun m2 t2 ⟨gs2, W2, sl2, a2, d2, x1, x2, x3, x4, x5, x6⟩ => ⟨gs2, W2, sl2, a2, d2, x1, x2, x3, x4.trans (by simpa using hsz), ?_, x6⟩)
    rw [he] at has
    exact aside_trans (aside_trans (aside_at e) has) x5
end
end Go.Proofs.YtgcbcagaibecbaaGreatDoor.Pool

namespace Go.Proofs.YtgcbcagaibecbaaGreatDoor.Pool
set_option maxRecDepth 20000
open Go Go.Conc Gap Go.RowKit Go.Conc.Lib Go.ConcR.Gen Go.ConcN.Gen
open Go.ConcN (upd upd_same upd_ne WgLive st_flag st_waiters)
open Go.ConcR (WgAt stA smA KK Payload DC0 mk rd wr)

section
variable [Payload] {L : WgLink}
omit [Payload] in
theorem wa_rely {ty : TypeId} {Wg : Nat} {st sm : Int} {w w1 : World} (h : WgAt ty Wg w st sm) (r : AtRel w w1) : WgAt ty Wg w1 st sm := by
  obtain ⟨d, rfl⟩ := r
  exact h
set_option maxRecDepth 100000 in
set_option maxHeartbeats 8000000 in
theorem addPos {P : Program} (H : WgLib P L) {Wg v : Nat} (hv : v < 2147483647) {b₀ : Frame} {a₀ : Act} {ops₀ : Array Oper} {i₀ : Nat} {rest₀ : List Nat} {k₀ : List Item} {cs : List Frame} (w : World) (hF : WgAt L.tWg Wg w (v * KK) 0) :
    Run1 P L.tWg Wg (fun d g w' => d = 0 ∧ g = G (b₀.at (a₀.put ((ops₀[i₀]?).bind (·.dst)) (.tuple #[])) (.inRegion ops₀ rest₀ :: k₀)) cs ∧ WgAt L.tWg Wg w' ((v + 1 : Nat) * KK) 0) 0
      (G (Frame.enter P L.add #[.pointer (some ⟨Wg, 0, none⟩), .int .i64 1] .normal) (b₀.at a₀ (.inRegion ops₀ (i₀ :: rest₀) :: k₀) :: cs)) w := by
  lib_facts
  rw [enter_at (c := body_add L) _ H.f_add rfl]
  simp only [body_add, addFn, Option.getD_some]
  walk_nrm
  refine Run1.of_goes 150 _ _ ?_
  u_c stepG_seq wa_rely hF
  u_cond true wa_rely hF
  u_c stepG_seq wa_rely hF
  u_c stepG_seq wa_rely hF
  u_reg wa_rely hF
  u_op wa_rely hF
  u_op wa_rely hF
  u_c stepG_region_end wa_rely hF
  u_cond false wa_rely hF
  u_c stepG_skip wa_rely hF
  u_c stepG_seq wa_rely hF
  u_reg wa_rely hF
  refine Goes.stop (fun w₁ h₁ => ?_)
  replace hF := wa_rely hF h₁
  clear h₁
  refine Run1.mark (d' := 1) .disable rfl (fun e => stepG_mark0 .disable (by simp) rfl rfl (by k_ne) rfl H.f_disable (x_disable_n L) (x_disable_b L) (x_disable_x L) (x_disable_f L)) (onW0_mark _ rfl (by simp)) rfl (fun e => ?_)
  replace hF := wa_rely hF ⟨e, rfl⟩
  revert hF
  generalize w₁.at e = w
  clear w₁
  intro hF
  refine Run1.of_goes 150 _ _ ?_
  walk_nrm
  u_c stepG_region_end wa_rely hF
  u_reg wa_rely hF
  u_defer wa_rely hF
  u_c stepG_region_end wa_rely hF
  u_c stepG_seq wa_rely hF
  u_reg wa_rely hF
  u_op wa_rely hF
  u_c stepG_region_end wa_rely hF
  u_c stepG_seq wa_rely hF
  u_c stepG_seq wa_rely hF
  u_reg wa_rely hF
  u_bub wa_rely hF
  u_c stepG_region_end wa_rely hF
  u_cond false wa_rely hF
  u_c stepG_skip wa_rely hF
  u_c stepG_seq wa_rely hF
  u_reg wa_rely hF
  u_op wa_rely hF
  u_op wa_rely hF
  u_op wa_rely hF
  u_op wa_rely hF
  u_op wa_rely hF
  u_op wa_rely hF
  u_call H.f_uAdd (nm_uAdd L) uAddFn wa_rely hF
  u_c stepG_seq wa_rely hF
  u_reg wa_rely hF
  u_op wa_rely hF
  u_c stepG_region_end wa_rely hF
  u_c stepG_seq wa_rely hF
  u_reg wa_rely hF
  u_op wa_rely hF
  u_op wa_rely hF
  u_op wa_rely hF
  u_op wa_rely hF
  refine Goes.stop (fun w₁ h₁ => ?_)
  replace hF := wa_rely hF h₁
  clear h₁
  rcases Nat.eq_zero_or_pos v with rfl | hvp
  · replace hF : WgAt L.tWg Wg w₁ 0 0 := by simpa using hF
    have e0 : IntKind.u64.wrap (0 + 4294967296) = KK := by decide
    refine Run1.next (d' := 1) (F := fun w => w.setCell (stA Wg) (.int .u64 KK)) rfl (fun e => ⟨(stepG_add_atomic rfl rfl (by k_ne) rfl H.f_addU64 (x_addU64_n L) (x_addU64_b L) (x_addU64_x L) .u64 (x_addU64_f L) rfl rfl (wa_rely hF ⟨e, rfl⟩).cellSt ((wa_rely hF ⟨e, rfl⟩).thaw 0)).trans (by rw [e0]), aside_setCell _ (stA Wg) _, fun _ => ⟨_, _, (wa_rely hF ⟨e, rfl⟩).setSt _⟩⟩) (fun x hx => by
      simp at hx
      rcases hx with rfl | rfl <;> exact .inl (.inl ⟨stA Wg, _, rfl, rfl⟩)) rfl (fun e => ?_)
    replace hF := (wa_rely hF ⟨e, rfl⟩).setSt KK
    revert hF
    generalize (w₁.at e).setCell (stA Wg) (.int .u64 KK) = w
    clear w₁
    intro hF
    refine Run1.of_goes 150 _ _ ?_
    simp only [KK] at hF ⊢
    walk_nrm
    u_op wa_rely hF
    u_c stepG_region_end wa_rely hF
    u_c stepG_ret' wa_rely hF
    u_leave1 H.f_uAdd wa_rely hF
    u_op wa_rely hF
    u_c stepG_region_end wa_rely hF
    u_c stepG_seq wa_rely hF
    u_c stepG_seq wa_rely hF
    u_reg wa_rely hF
    u_op wa_rely hF
    u_op wa_rely hF
    u_op wa_rely hF
    u_op wa_rely hF
    u_skip wa_rely hF
    u_skip wa_rely hF
    u_op wa_rely hF
    u_c stepG_region_end wa_rely hF
    u_cond false wa_rely hF
    u_c stepG_skip wa_rely hF
    u_c stepG_seq wa_rely hF
    u_reg wa_rely hF
    u_op wa_rely hF
    u_op wa_rely hF
    u_op wa_rely hF
    u_op wa_rely hF
    u_c stepG_region_end wa_rely hF
    u_c stepG_seq wa_rely hF
    u_reg wa_rely hF
    u_op wa_rely hF
    u_op wa_rely hF
    u_op wa_rely hF
    u_op wa_rely hF
    u_c stepG_region_end wa_rely hF
    u_c stepG_seq wa_rely hF
    u_c stepG_seq wa_rely hF
    u_reg wa_rely hF
    u_op wa_rely hF
    u_op wa_rely hF
    u_op wa_rely hF
    u_op wa_rely hF
    u_op wa_rely hF
    u_op wa_rely hF
    u_op wa_rely hF
    u_op wa_rely hF
    u_op wa_rely hF
    u_op wa_rely hF
    u_c stepG_region_end wa_rely hF
    u_cond true wa_rely hF
    u_reg wa_rely hF
    u_op wa_rely hF
    u_op wa_rely hF
    u_op wa_rely hF
    u_conv H.underlying_tPU32 H.room_tU32 (show World.cell? _ ⟨Wg, 1, none⟩ = some _ from hF.cellSm) (wa_rely) hF
    refine Goes.stop (fun w₁ h₁ => ?_)
    replace hF := wa_rely hF h₁
    clear h₁
    refine Run1.mark (d' := 1) (.read ⟨Wg, 1, none⟩) rfl (fun e => stepG_markAt .read (by simp) rfl rfl (by k_ne) rfl H.f_raceRead (x_raceRead_n L) (x_raceRead_b L) (x_raceRead_x L) (x_raceRead_f L) (ad := ⟨Wg, 1, none⟩) (by simp [Act.eval])) (.inr ⟨⟨Wg, 1, none⟩, false, rfl, rfl⟩) rfl (fun e => ?_)
    replace hF := wa_rely hF ⟨e, rfl⟩
    revert hF
    generalize w₁.at e = w
    clear w₁
    intro hF
    refine Run1.of_goes 150 _ _ ?_
    walk_nrm
    u_c stepG_region_end wa_rely hF
    u_c stepG_seq wa_rely hF
    u_c stepG_seq wa_rely hF
    u_reg wa_rely hF
    u_op wa_rely hF
    u_op wa_rely hF
    u_c stepG_region_end wa_rely hF
    u_cond false wa_rely hF
    u_c stepG_skip wa_rely hF
    u_c stepG_seq wa_rely hF
    u_c stepG_seq wa_rely hF
    u_reg wa_rely hF
    u_op wa_rely hF
    u_op wa_rely hF
    u_op wa_rely hF
    u_skip wa_rely hF
    u_skip wa_rely hF
    u_op wa_rely hF
    u_op wa_rely hF
    u_skip wa_rely hF
    u_skip wa_rely hF
    u_skip wa_rely hF
    u_skip wa_rely hF
    u_op wa_rely hF
    u_c stepG_region_end wa_rely hF
    u_cond false wa_rely hF
    u_c stepG_skip wa_rely hF
    u_c stepG_seq wa_rely hF
    u_c stepG_seq wa_rely hF
    u_reg wa_rely hF
    u_op wa_rely hF
    u_op wa_rely hF
    u_op wa_rely hF
    u_skip wa_rely hF
    u_skip wa_rely hF
    u_op wa_rely hF
    u_c stepG_region_end wa_rely hF
    u_cond true wa_rely hF
    u_c stepG_ret' wa_rely hF
    refine Goes.stop (fun w₁ h₁ => ?_)
    replace hF := wa_rely hF h₁
    clear h₁
    refine Run1.mark (d' := 0) .enable rfl (fun e => stepG_unwind_entry (v := .tuple #[]) (evs := #[mk .enable]) rfl H.f_enable (x_enable_n L) (x_enable_b L) (x_enable_x L) (x_enable_f L) (by simp [Extern.Race.none_]) (by simp [mk]) (by simp [mk])) (onW0_mark _ rfl (by simp)) rfl (fun e => ?_)
    replace hF := wa_rely hF ⟨e, rfl⟩
    refine Run1.of_goes 150 _ _ ?_
    u_leave0 H.f_add (wa_rely) hF
    refine Goes.stop (fun w₁ h₁ => .fin fun e => ⟨rfl, rfl, ?_⟩)
    exact wa_rely (wa_rely hF h₁) ⟨e, rfl⟩
  · obtain ⟨V, hV⟩ : ∃ V : Int, V = (v : Int) + 1 := ⟨_, rfl⟩
    obtain ⟨S, hS⟩ : ∃ S : Int, S = V * KK := ⟨_, rfl⟩
    have eS : IntKind.u64.wrap ((v : Int) * KK + 4294967296) = S := by rw [IntKind.wrap_u64, hS, hV]; simp only [KK]; omega
    have hVS : ((v + 1 : Nat) : Int) * KK = S := by rw [hS, hV]; simp
    rw [hVS]
    have a1 : S / 4294967296 = V := by rw [hS]; simp only [KK]; omega
    have b1 : bits .and .u64 S 2147483648 = 0 := by rw [hS, hV]; have := st_flag (v + 1) 0 (by omega) (by omega); simpa [KK] using this
    have b2 : bits .and .u64 S 2147483647 = 0 := by rw [hS, hV]; have := st_waiters (v + 1) 0 (by omega) (by omega); simpa [KK] using this
    have c1 : IntKind.i32.wrap V = V := by rw [IntKind.wrap_i32]; omega
    have hV1 : 1 < V := by omega
    have hV2 : V < 2147483648 := by omega
    have q1 : (V == 1) = false := by simp; omega
    have q2 : decide (V = 1) = false := decide_eq_false (by omega)
    have q3 : decide (V < 0) = false := decide_eq_false (by omega)
    have q4 : decide (0 < V) = true := decide_eq_true (by omega)
    have q5 : (V == 0) = false := by simp; omega
    have q6 : decide (V = 0) = false := decide_eq_false (by omega)
    refine Run1.next (d' := 1) (F := fun w => w.setCell (stA Wg) (.int .u64 S)) rfl (fun e => ⟨(stepG_add_atomic rfl rfl (by k_ne) rfl H.f_addU64 (x_addU64_n L) (x_addU64_b L) (x_addU64_x L) .u64 (x_addU64_f L) rfl rfl (wa_rely hF ⟨e, rfl⟩).cellSt ((wa_rely hF ⟨e, rfl⟩).thaw 0)).trans (by rw [eS]), aside_setCell _ (stA Wg) _, fun _ => ⟨_, _, (wa_rely hF ⟨e, rfl⟩).setSt _⟩⟩) (fun x hx => by
      simp at hx
      rcases hx with rfl | rfl <;> exact .inl (.inl ⟨stA Wg, _, rfl, rfl⟩)) rfl (fun e => ?_)
    replace hF := (wa_rely hF ⟨e, rfl⟩).setSt S
    revert hF
    generalize (w₁.at e).setCell (stA Wg) (.int .u64 S) = w
    clear w₁
    intro hF
    refine Run1.of_goes 150 _ _ ?_
    clear hS hV eS hVS
    walk_nrm
    u_op wa_rely hF
    u_c stepG_region_end wa_rely hF
    u_c stepG_ret' wa_rely hF
    u_leave1 H.f_uAdd wa_rely hF
    u_op wa_rely hF
    u_c stepG_region_end wa_rely hF
    u_c stepG_seq wa_rely hF
    u_c stepG_seq wa_rely hF
    u_reg wa_rely hF
    u_op wa_rely hF
    u_op wa_rely hF
    u_op wa_rely hF
    u_op wa_rely hF
    u_skip wa_rely hF
    u_skip wa_rely hF
    u_op wa_rely hF
    u_c stepG_region_end wa_rely hF
    u_cnd false wa_rely hF
    u_c stepG_skip wa_rely hF
    u_c stepG_seq wa_rely hF
    u_reg wa_rely hF
    u_op wa_rely hF
    u_op wa_rely hF
    u_op wa_rely hF
    u_op wa_rely hF
    u_c stepG_region_end wa_rely hF
    u_c stepG_seq wa_rely hF
    u_reg wa_rely hF
    u_op wa_rely hF
    u_op wa_rely hF
    u_op wa_rely hF
    u_op wa_rely hF
    u_c stepG_region_end wa_rely hF
    u_c stepG_seq wa_rely hF
    u_c stepG_seq wa_rely hF
    u_reg wa_rely hF
    u_op wa_rely hF
    u_op wa_rely hF
    u_op wa_rely hF
    u_op wa_rely hF
    u_op wa_rely hF
    u_op wa_rely hF
    u_op wa_rely hF
    u_op wa_rely hF
    u_op wa_rely hF
    u_op wa_rely hF
    u_c stepG_region_end wa_rely hF
    u_cnd false wa_rely hF
    u_c stepG_skip wa_rely hF
    u_c stepG_seq wa_rely hF
    u_c stepG_seq wa_rely hF
    u_reg wa_rely hF
    u_op wa_rely hF
    u_op wa_rely hF
    u_c stepG_region_end wa_rely hF
    u_cnd false wa_rely hF
    u_c stepG_skip wa_rely hF
    u_c stepG_seq wa_rely hF
    u_c stepG_seq wa_rely hF
    u_reg wa_rely hF
    u_op wa_rely hF
    u_op wa_rely hF
    u_op wa_rely hF
    u_skip wa_rely hF
    u_skip wa_rely hF
    u_op wa_rely hF
    u_op wa_rely hF
    u_skip wa_rely hF
    u_skip wa_rely hF
    u_skip wa_rely hF
    u_skip wa_rely hF
    u_op wa_rely hF
    u_c stepG_region_end wa_rely hF
    u_cnd false wa_rely hF
    u_c stepG_skip wa_rely hF
    u_c stepG_seq wa_rely hF
    u_c stepG_seq wa_rely hF
    u_reg wa_rely hF
    u_op wa_rely hF
    u_op wa_rely hF
    u_op wa_rely hF
    u_skip wa_rely hF
    u_skip wa_rely hF
    u_op wa_rely hF
    u_c stepG_region_end wa_rely hF
    u_cnd true wa_rely hF
    u_c stepG_ret' wa_rely hF
    refine Goes.stop (fun w₁ h₁ => ?_)
    replace hF := wa_rely hF h₁
    clear h₁
    refine Run1.mark (d' := 0) .enable rfl (fun e => stepG_unwind_entry (v := .tuple #[]) (evs := #[mk .enable]) rfl H.f_enable (x_enable_n L) (x_enable_b L) (x_enable_x L) (x_enable_f L) (by simp [Extern.Race.none_]) (by simp [mk]) (by simp [mk])) (onW0_mark _ rfl (by simp)) rfl (fun e => ?_)
    replace hF := wa_rely hF ⟨e, rfl⟩
    refine Run1.of_goes 150 _ _ ?_
    u_leave0 H.f_add (wa_rely) hF
    refine Goes.stop (fun w₁ h₁ => .fin fun e => ⟨rfl, rfl, ?_⟩)
    exact wa_rely (wa_rely hF h₁) ⟨e, rfl⟩
end
end Go.Proofs.YtgcbcagaibecbaaGreatDoor.Pool

namespace Go.Proofs.YtgcbcagaibecbaaGreatDoor.Pool
set_option maxRecDepth 20000
open Go Go.Conc Gap Go.RowKit Go.Conc.Lib Go.ConcR.Gen Go.ConcN.Gen
open Go.ConcN (upd upd_same upd_ne WgLive st_flag st_waiters RW AtK1 AtD1 AtD2 AtD3 AtD4)
open Go.ConcR (WgAt stA smA KK Payload DC0 mk rd wr)

section
variable [Payload] {L : WgLink}
def CR (P : Program) (ty : TypeId) (Wg C : Nat) (g : Goroutine) (w : World) : Prop := g.status = .running ∧ ∃ g', stepG P false g w = .go g' w #[mk (.releaseMerge (stA Wg))] ∧ ∃ m, Goes P false (RW ty Wg C 1 0 0) DC0 (AtK1 P ty Wg C 1 0 1) m g' w
theorem rw_live {ty : TypeId} {Wg C : Nat} {w w1 : World} (h : WgLive ty Wg w) (r : RW ty Wg C 1 0 0 w w1) : WgLive ty Wg w1 := r.live h
set_option maxRecDepth 100000 in
set_option maxHeartbeats 8000000 in
theorem addNegC {P : Program} (H : WgLib P L) {Wg C qt : Nat} {b₀ : Frame} {a₀ : Act} {ops₀ : Array Oper} {i₀ : Nat} {rest₀ : List Nat} {k₀ : List Item} {cs : List Frame}
    (hT : QuitsD P qt 0 (G (b₀.at (a₀.put ((ops₀[i₀]?).bind (·.dst)) (.tuple #[])) (.inRegion ops₀ rest₀ :: k₀)) cs)) (w : World) (hF : WgLive L.tWg Wg w) :
    Goes P false (RW L.tWg Wg C 1 0 0) DC0 (CR P L.tWg Wg C) 20 (G (Frame.enter P L.add #[.pointer (some ⟨Wg, 0, none⟩), .int .i64 (-1)] .normal) (b₀.at a₀ (.inRegion ops₀ (i₀ :: rest₀) :: k₀) :: cs)) w := by
  lib_facts
  rw [enter_at (c := body_add L) _ H.f_add rfl]
  simp only [body_add, addFn, Option.getD_some]
  walk_nrm
  u_c stepG_seq rw_live hF
  u_cond true rw_live hF
  u_c stepG_seq rw_live hF
  u_c stepG_seq rw_live hF
  u_reg rw_live hF
  u_op rw_live hF
  u_op rw_live hF
  u_c stepG_region_end rw_live hF
  u_cond true rw_live hF
  u_reg rw_live hF
  u_op rw_live hF
  u_conv H.underlying_tWgP H.room_tWg (WgLive.cell0 hF).choose_spec (rw_live) hF
  refine Goes.stop (fun w₁ h₁ => ?_)
  replace hF := rw_live hF h₁
  clear h₁
  refine ⟨rfl, _, stepG_markAt .releaseMerge (by simp) rfl rfl (by k_ne) rfl H.f_relMerge (x_relMerge_n L) (x_relMerge_b L) (x_relMerge_x L) (x_relMerge_f L) (by simp [Act.eval, stA]), 10, ?_⟩
  walk_nrm
  u_c stepG_region_end rw_live hF
  u_c stepG_seq rw_live hF
  u_reg rw_live hF
  refine Goes.stop (fun w₁ h₁ => ?_)
  replace hF := rw_live hF h₁
  clear h₁
  refine ⟨rfl, _, stepG_mark0 .disable (by simp) rfl rfl (by k_ne) rfl H.f_disable (x_disable_n L) (x_disable_b L) (x_disable_x L) (x_disable_f L), 50, ?_⟩
  walk_nrm
  u_c stepG_region_end rw_live hF
  u_reg rw_live hF
  u_defer rw_live hF
  u_c stepG_region_end rw_live hF
  u_c stepG_seq rw_live hF
  u_reg rw_live hF
  u_op rw_live hF
  u_c stepG_region_end rw_live hF
  u_c stepG_seq rw_live hF
  u_c stepG_seq rw_live hF
  u_reg rw_live hF
  u_bub rw_live hF
  u_c stepG_region_end rw_live hF
  u_cond false rw_live hF
  u_c stepG_skip rw_live hF
  u_c stepG_seq rw_live hF
  u_reg rw_live hF
  u_op rw_live hF
  u_op rw_live hF
  u_op rw_live hF
  u_op rw_live hF
  u_op rw_live hF
  u_op rw_live hF
  u_call H.f_uAdd (nm_uAdd L) uAddFn rw_live hF
  u_c stepG_seq rw_live hF
  u_reg rw_live hF
  u_op rw_live hF
  u_c stepG_region_end rw_live hF
  u_c stepG_seq rw_live hF
  u_reg rw_live hF
  u_op rw_live hF
  u_op rw_live hF
  u_op rw_live hF
  u_op rw_live hF
  refine Goes.stop (fun w₁ h₁ => ?_)
  clear h₁ hF
  refine ⟨rfl, fun v wt hwt hv hw => ?_⟩
  have e0 : IntKind.u64.wrap (KK + 18446744069414584320) = 0 := by decide
  have e1 : IntKind.u64.wrap (KK + 1 + 18446744069414584320) = 1 := by decide
  rcases Nat.eq_zero_or_pos v with rfl | hvp <;> (obtain rfl | rfl : wt = 0 ∨ wt = 1 := by omega)
  · replace hw : WgAt L.tWg Wg w₁ KK 0 := by simpa using hw
    have z : ((0 : Nat) : Int) * KK + ((0 : Nat) : Int) = 0 := by simp
    rw [z]
    refine ⟨_, (stepG_add_atomic rfl rfl (by k_ne) rfl H.f_addU64 (x_addU64_n L) (x_addU64_b L) (x_addU64_x L) .u64 (x_addU64_f L) rfl rfl hw.cellSt (hw.thaw 0)).trans (by rw [e0]; rfl), fun hl => absurd hl.2 (by decide), fun _ => ⟨qt + 89, ?_⟩⟩
    clear hw
    walk_nrm
    q_val (.int .u64 0)
    q_c stepG_region_end
    q_c stepG_ret'
    q_leave1 H.f_uAdd
    q_val (.int .u64 0)
    q_c stepG_region_end
    q_c stepG_seq
    q_c stepG_seq
    q_reg
    q_val (.int .u64 0)
    q_val (.int .u64 0)
    q_val (.bool false)
    q_val (.bool false)
    q_skip
    q_skip
    q_val (.bool false)
    q_c stepG_region_end
    q_cond false
    q_c stepG_skip
    q_c stepG_seq
    q_reg
    q_val (.int .u64 0)
    q_val (.int .u64 0)
    q_val (.int .i32 0)
    q_val (.int .i32 0)
    q_c stepG_region_end
    q_c stepG_seq
    q_reg
    q_val (.int .u64 0)
    q_val (.int .u64 0)
    q_val (.int .u32 0)
    q_val (.int .u32 0)
    q_c stepG_region_end
    q_c stepG_seq
    q_c stepG_seq
    q_reg
    q_val (.bool true)
    q_val (.int .i64 (-1))
    q_val (.bool false)
    q_val (.bool false)
    q_val (.bool false)
    q_skip
    q_skip
    q_skip
    q_skip
    q_val (.bool false)
    q_c stepG_region_end
    q_cond false
    q_c stepG_skip
    q_c stepG_seq
    q_c stepG_seq
    q_reg
    q_val (.int .i32 0)
    q_val (.bool false)
    q_c stepG_region_end
    q_cond false
    q_c stepG_skip
    q_c stepG_seq
    q_c stepG_seq
    q_reg
    q_val (.int .u32 0)
    q_val (.bool false)
    q_val (.bool false)
    q_skip
    q_skip
    q_val (.bool false)
    q_val (.bool false)
    q_skip
    q_skip
    q_skip
    q_skip
    q_val (.bool false)
    q_c stepG_region_end
    q_cond false
    q_c stepG_skip
    q_c stepG_seq
    q_c stepG_seq
    q_reg
    q_val (.int .i32 0)
    q_val (.bool false)
    q_val (.bool false)
    q_val (.int .u32 0)
    q_val (.bool true)
    q_val (.bool true)
    q_c stepG_region_end
    q_cond true
    q_c stepG_ret'
    q_enable
    q_leave0 H.f_add
    exact hT
  · replace hw : WgAt L.tWg Wg w₁ (KK + 1) 0 := by simpa using hw
    have z : ((0 : Nat) : Int) * KK + ((1 : Nat) : Int) = 1 := by simp
    rw [z]
    refine ⟨_, (stepG_add_atomic rfl rfl (by k_ne) rfl H.f_addU64 (x_addU64_n L) (x_addU64_b L) (x_addU64_x L) .u64 (x_addU64_f L) rfl rfl hw.cellSt (hw.thaw 0)).trans (by rw [e1]; rfl), fun _ => ⟨120, ?_⟩, fun hl => absurd ⟨rfl, rfl⟩ hl⟩
    have hF : WgLive L.tWg Wg (w₁.setCell (stA Wg) (.int .u64 1)) := ⟨_, _, hw.setSt 1⟩
    clear hw
    walk_nrm
    u_op rw_live hF
    u_c stepG_region_end rw_live hF
    u_c stepG_ret' rw_live hF
    u_leave1 H.f_uAdd rw_live hF
    u_op rw_live hF
    u_c stepG_region_end rw_live hF
    u_c stepG_seq rw_live hF
    u_c stepG_seq rw_live hF
    u_reg rw_live hF
    u_op rw_live hF
    u_op rw_live hF
    u_op rw_live hF
    u_op rw_live hF
    u_skip rw_live hF
    u_skip rw_live hF
    u_op rw_live hF
    u_c stepG_region_end rw_live hF
    u_cond false rw_live hF
    u_c stepG_skip rw_live hF
    u_c stepG_seq rw_live hF
    u_reg rw_live hF
    u_op rw_live hF
    u_op rw_live hF
    u_op rw_live hF
    u_op rw_live hF
    u_c stepG_region_end rw_live hF
    u_c stepG_seq rw_live hF
    u_reg rw_live hF
    u_op rw_live hF
    u_op rw_live hF
    u_op rw_live hF
    u_op rw_live hF
    u_c stepG_region_end rw_live hF
    u_c stepG_seq rw_live hF
    u_c stepG_seq rw_live hF
    u_reg rw_live hF
    u_op rw_live hF
    u_op rw_live hF
    u_op rw_live hF
    u_op rw_live hF
    u_op rw_live hF
    u_skip rw_live hF
    u_skip rw_live hF
    u_skip rw_live hF
    u_skip rw_live hF
    u_op rw_live hF
    u_c stepG_region_end rw_live hF
    u_cond false rw_live hF
    u_c stepG_skip rw_live hF
    u_c stepG_seq rw_live hF
    u_c stepG_seq rw_live hF
    u_reg rw_live hF
    u_op rw_live hF
    u_op rw_live hF
    u_c stepG_region_end rw_live hF
    u_cond false rw_live hF
    u_c stepG_skip rw_live hF
    u_c stepG_seq rw_live hF
    u_c stepG_seq rw_live hF
    u_reg rw_live hF
    u_op rw_live hF
    u_op rw_live hF
    u_op rw_live hF
    u_op rw_live hF
    u_op rw_live hF
    u_op rw_live hF
    u_op rw_live hF
    u_skip rw_live hF
    u_skip rw_live hF
    u_skip rw_live hF
    u_skip rw_live hF
    u_op rw_live hF
    u_c stepG_region_end rw_live hF
    u_cond false rw_live hF
    u_c stepG_skip rw_live hF
    u_c stepG_seq rw_live hF
    u_c stepG_seq rw_live hF
    u_reg rw_live hF
    u_op rw_live hF
    u_op rw_live hF
    u_op rw_live hF
    u_op rw_live hF
    u_op rw_live hF
    u_op rw_live hF
    u_c stepG_region_end rw_live hF
    u_cond false rw_live hF
    u_c stepG_skip rw_live hF
    u_c stepG_seq rw_live hF
    u_c stepG_seq rw_live hF
    u_reg rw_live hF
    u_op rw_live hF
    u_op rw_live hF
    u_op rw_live hF
    u_call H.f_uLoad (nm_uLoad L) uLoadFn rw_live hF
    u_c stepG_seq rw_live hF
    u_reg rw_live hF
    u_op rw_live hF
    u_c stepG_region_end rw_live hF
    u_c stepG_seq rw_live hF
    u_reg rw_live hF
    u_op rw_live hF
    u_op rw_live hF
    u_op rw_live hF
    refine Goes.stop (fun w₂ h₂ => ?_)
    clear h₂ hF
    refine ⟨rfl, fun hw => ⟨_, stepG_load_atomic rfl rfl (by k_ne) rfl H.f_loadU64 (x_loadU64_n L) (x_loadU64_b L) (x_loadU64_x L) .u64 (x_loadU64_f L) rfl hw.cellSt, 40, ?_⟩⟩
    have hF : WgLive L.tWg Wg w₂ := ⟨_, _, hw⟩
    clear hw
    walk_nrm
    u_op rw_live hF
    u_c stepG_region_end rw_live hF
    u_c stepG_ret' rw_live hF
    u_leave1 H.f_uLoad rw_live hF
    u_op rw_live hF
    u_op rw_live hF
    u_c stepG_region_end rw_live hF
    u_cond false rw_live hF
    u_c stepG_skip rw_live hF
    u_c stepG_seq rw_live hF
    u_reg rw_live hF
    u_op rw_live hF
    u_op rw_live hF
    u_op rw_live hF
    u_call H.f_uStore (nm_uStore L) uStoreFn rw_live hF
    u_reg rw_live hF
    u_op rw_live hF
    u_op rw_live hF
    u_op rw_live hF
    u_op rw_live hF
    refine Goes.stop (fun w₃ h₃ => ?_)
    clear h₃ hF
    refine ⟨rfl, fun hw => ⟨_, stepG_store_atomic rfl rfl (by k_ne) rfl H.f_storeU64 (x_storeU64_n L) (x_storeU64_b L) (x_storeU64_x L) (x_storeU64_f L) rfl rfl hw.cellSt (hw.thaw 0), 50, ?_⟩⟩
    have hF : WgLive L.tWg Wg (w₃.setCell (stA Wg) (.int .u64 0)) := ⟨_, _, hw.setSt 0⟩
    clear hw
    walk_nrm
    u_c stepG_region_end rw_live hF
    u_c stepG_end rw_live hF
    u_leave0 H.f_uStore rw_live hF
    u_c stepG_region_end rw_live hF
    u_c stepG_seq rw_live hF
    u_c stepG_seq rw_live hF
    u_reg rw_live hF
    u_op rw_live hF
    u_c stepG_region_end rw_live hF
    u_cond false rw_live hF
    u_c stepG_skip rw_live hF
    u_c stepG_block rw_live hF
    u_c stepG_loop rw_live hF
    u_c stepG_seq rw_live hF
    u_c stepG_seq rw_live hF
    u_reg rw_live hF
    u_op rw_live hF
    u_op rw_live hF
    u_c stepG_region_end rw_live hF
    u_cond true rw_live hF
    u_c stepG_skip rw_live hF
    u_c stepG_seq rw_live hF
    u_c stepG_block rw_live hF
    u_reg rw_live hF
    u_op rw_live hF
    u_op rw_live hF
    u_op rw_live hF
    refine Goes.stop (fun w₄ h₄ => ?_)
    clear h₄ hF
    refine ⟨rfl, mayWake_entry rfl rfl H.f_semrelease (x_semrelease_b L), fun hw => ⟨_, (stepG_semrelease rfl rfl (by k_ne) rfl H.f_semrelease (x_semrelease_n L) (x_semrelease_b L) (x_semrelease_x L) (x_semrelease_f L) (by simp [Act.eval, smA]) hw.cellSm (hw.thaw 1)).trans (by rfl), qt + 19, ?_⟩⟩
    clear hw
    walk_nrm
    q_c stepG_region_end
    q_c stepG_inBlock
    q_reg
    q_val (.int .u32 1)
    q_val (.int .u32 0)
    q_val (.int .u32 0)
    q_c stepG_region_end
    q_c stepG_inLoop
    q_c stepG_seq
    q_c stepG_seq
    q_reg
    q_val (.int .u32 0)
    q_val (.bool false)
    q_c stepG_region_end
    q_cond false
    q_exit
    q_c stepG_end
    q_enable
    q_leave0 H.f_add
    exact hT
  · replace hw : WgAt L.tWg Wg w₁ (((v : Nat) + 1) * KK + 0) 0 := by simpa using hw
    have z : ((v : Nat) : Int) * KK + ((0 : Nat) : Int) = (v : Int) * KK + 0 := by simp
    rw [z]
    have hv0 : 0 < v := by omega
    have eS : IntKind.u64.wrap (((v : Nat) + 1) * KK + 0 + 18446744069414584320) = (v : Int) * KK + 0 := by rw [IntKind.wrap_u64]; simp only [KK]; omega
    obtain ⟨S, hS⟩ : ∃ S : Int, S = (v : Int) * KK + 0 := ⟨_, rfl⟩
    rw [← hS] at eS ⊢
    have a1 : S / 4294967296 = (v : Int) := by rw [hS]; simp only [KK]; omega
    have a2 : 0 ≤ S ∧ S < 9223372036854775808 := by rw [hS]; simp only [KK]; omega
    have b1 : bits .and .u64 S 2147483648 = 0 := by rw [hS]; have := st_flag v 0 (by omega) (by omega); simpa [KK] using this
    have b2 : bits .and .u64 S 2147483647 = 0 := by rw [hS]; have := st_waiters v 0 (by omega) (by omega); simpa [KK] using this
    clear hS z
    refine ⟨_, (stepG_add_atomic rfl rfl (by k_ne) rfl H.f_addU64 (x_addU64_n L) (x_addU64_b L) (x_addU64_x L) .u64 (x_addU64_f L) rfl rfl hw.cellSt (hw.thaw 0)).trans (by rw [eS]; rfl), fun hl => absurd hl.1 (by omega), fun _ => ⟨qt + 89, ?_⟩⟩
    clear hw
    walk_nrm
    q_vn (.int .u64 S)
    q_c stepG_region_end
    q_c stepG_ret'
    q_leave1 H.f_uAdd
    q_vn (.int .u64 S)
    q_c stepG_region_end
    q_c stepG_seq
    q_c stepG_seq
    q_reg
    q_vn (.int .u64 S)
    q_vn (.int .u64 0)
    q_vn (.bool false)
    q_vn (.bool false)
    q_skip
    q_skip
    q_vn (.bool false)
    q_c stepG_region_end
    q_cond false
    q_c stepG_skip
    q_c stepG_seq
    q_reg
    q_vn (.int .u64 S)
    q_vn (.int .u64 (v : Int))
    q_vn (.int .i32 (v : Int))
    q_vn (.int .i32 (v : Int))
    q_c stepG_region_end
    q_c stepG_seq
    q_reg
    q_vn (.int .u64 S)
    q_vn (.int .u64 0)
    q_vn (.int .u32 0)
    q_vn (.int .u32 0)
    q_c stepG_region_end
    q_c stepG_seq
    q_c stepG_seq
    q_reg
    q_vn (.bool true)
    q_vn (.int .i64 (-1))
    q_vn (.bool false)
    q_vn (.bool false)
    q_vn (.bool false)
    q_skip
    q_skip
    q_skip
    q_skip
    q_vn (.bool false)
    q_c stepG_region_end
    q_cond false
    q_c stepG_skip
    q_c stepG_seq
    q_c stepG_seq
    q_reg
    q_vn (.int .i32 (v : Int))
    q_vn (.bool false)
    q_c stepG_region_end
    q_cond false
    q_c stepG_skip
    q_c stepG_seq
    q_c stepG_seq
    q_reg
    q_vn (.int .u32 0)
    q_vn (.bool false)
    q_vn (.bool false)
    q_skip
    q_skip
    q_vn (.bool false)
    q_vn (.bool false)
    q_skip
    q_skip
    q_skip
    q_skip
    q_vn (.bool false)
    q_c stepG_region_end
    q_cond false
    q_c stepG_skip
    q_c stepG_seq
    q_c stepG_seq
    q_reg
    q_vn (.int .i32 (v : Int))
    q_vn (.bool true)
    q_vn (.bool true)
    q_skip
    q_skip
    q_vn (.bool true)
    q_c stepG_region_end
    q_cond true
    q_c stepG_ret'
    q_enable
    q_leave0 H.f_add
    exact hT
  · replace hw : WgAt L.tWg Wg w₁ (((v : Nat) + 1) * KK + 1) 0 := by simpa using hw
    have z : ((v : Nat) : Int) * KK + ((1 : Nat) : Int) = (v : Int) * KK + 1 := by simp
    rw [z]
    have hv0 : 0 < v := by omega
    have eS : IntKind.u64.wrap (((v : Nat) + 1) * KK + 1 + 18446744069414584320) = (v : Int) * KK + 1 := by rw [IntKind.wrap_u64]; simp only [KK]; omega
    obtain ⟨S, hS⟩ : ∃ S : Int, S = (v : Int) * KK + 1 := ⟨_, rfl⟩
    rw [← hS] at eS ⊢
    have a1 : S / 4294967296 = (v : Int) := by rw [hS]; simp only [KK]; omega
    have a2 : 0 ≤ S ∧ S < 9223372036854775808 := by rw [hS]; simp only [KK]; omega
    have b1 : bits .and .u64 S 2147483648 = 0 := by rw [hS]; have := st_flag v 1 (by omega) (by omega); simpa [KK] using this
    have b2 : bits .and .u64 S 2147483647 = 1 := by rw [hS]; have := st_waiters v 1 (by omega) (by omega); simpa [KK] using this
    clear hS z
    refine ⟨_, (stepG_add_atomic rfl rfl (by k_ne) rfl H.f_addU64 (x_addU64_n L) (x_addU64_b L) (x_addU64_x L) .u64 (x_addU64_f L) rfl rfl hw.cellSt (hw.thaw 0)).trans (by rw [eS]; rfl), fun hl => absurd hl.1 (by omega), fun _ => ⟨qt + 89, ?_⟩⟩
    clear hw
    walk_nrm
    q_vn (.int .u64 S)
    q_c stepG_region_end
    q_c stepG_ret'
    q_leave1 H.f_uAdd
    q_vn (.int .u64 S)
    q_c stepG_region_end
    q_c stepG_seq
    q_c stepG_seq
    q_reg
    q_vn (.int .u64 S)
    q_vn (.int .u64 0)
    q_vn (.bool false)
    q_vn (.bool false)
    q_skip
    q_skip
    q_vn (.bool false)
    q_c stepG_region_end
    q_cond false
    q_c stepG_skip
    q_c stepG_seq
    q_reg
    q_vn (.int .u64 S)
    q_vn (.int .u64 (v : Int))
    q_vn (.int .i32 (v : Int))
    q_vn (.int .i32 (v : Int))
    q_c stepG_region_end
    q_c stepG_seq
    q_reg
    q_vn (.int .u64 S)
    q_vn (.int .u64 1)
    q_vn (.int .u32 1)
    q_vn (.int .u32 1)
    q_c stepG_region_end
    q_c stepG_seq
    q_c stepG_seq
    q_reg
    q_vn (.bool true)
    q_vn (.int .i64 (-1))
    q_vn (.bool false)
    q_vn (.bool false)
    q_vn (.bool false)
    q_skip
    q_skip
    q_skip
    q_skip
    q_vn (.bool false)
    q_c stepG_region_end
    q_cond false
    q_c stepG_skip
    q_c stepG_seq
    q_c stepG_seq
    q_reg
    q_vn (.int .i32 (v : Int))
    q_vn (.bool false)
    q_c stepG_region_end
    q_cond false
    q_c stepG_skip
    q_c stepG_seq
    q_c stepG_seq
    q_reg
    q_vn (.int .u32 1)
    q_vn (.bool true)
    q_vn (.bool true)
    q_vn (.int .i64 (-1))
    q_vn (.bool false)
    q_vn (.bool false)
    q_vn (.bool false)
    q_skip
    q_skip
    q_skip
    q_skip
    q_vn (.bool false)
    q_c stepG_region_end
    q_cond false
    q_c stepG_skip
    q_c stepG_seq
    q_c stepG_seq
    q_reg
    q_vn (.int .i32 (v : Int))
    q_vn (.bool true)
    q_vn (.bool true)
    q_skip
    q_skip
    q_vn (.bool true)
    q_c stepG_region_end
    q_cond true
    q_c stepG_ret'
    q_enable
    q_leave0 H.f_add
    exact hT
theorem doneCR {P : Program} (H : WgLib P L) {Wg C qt : Nat} {b₀ : Frame} {a₀ : Act} {ops₀ : Array Oper} {i₀ : Nat} {rest₀ : List Nat} {k₀ : List Item} {cs : List Frame}
    (hT : QuitsD P qt 0 (G (b₀.at (a₀.put ((ops₀[i₀]?).bind (·.dst)) (.tuple #[])) (.inRegion ops₀ rest₀ :: k₀)) cs)) (w : World) (hF : WgLive L.tWg Wg w) :
    Goes P false (RW L.tWg Wg C 1 0 0) DC0 (CR P L.tWg Wg C) 23 (G (Frame.enter P L.done #[.pointer (some ⟨Wg, 0, none⟩)] .normal) (b₀.at a₀ (.inRegion ops₀ (i₀ :: rest₀) :: k₀) :: cs)) w := by
  lib_facts
  rw [enter_at (c := body_done L) _ H.f_done rfl]
  simp only [body_done, doneFn, Option.getD_some]
  walk_nrm
  u_reg rw_live hF
  u_op rw_live hF
  u_in (rw_live) hF
  refine goes_call rfl rfl (by k_ne) rfl H.f_add (nm_add L) rfl ⟨by u_nil, ?_⟩
  rw [← enter_at _ H.f_add rfl]
  walk_nrm
  refine addNegC (qt := qt + 3) H ?_ _ hF
  q_c stepG_region_end
  q_c stepG_end
  q_leave0 H.f_done
  exact hT
end
end Go.Proofs.YtgcbcagaibecbaaGreatDoor.Pool
