
/-
  '==' on structs of numbers, truth values and strings: their cells are equal.
-/
import Derived.Test.YtakdekkieobbaaaDoorEvG
import Derived.Laws.StructEq
import Derived.Laws.Tables
namespace Go.Proofs.YtakdekkieobbaaaDoor.Ev
open Go

/-- What such a cell holds. -/
inductive Pr where
  | int (n : Int)
  | bool (b : Bool)
  | str (s : ByteArray)
  deriving DecidableEq
inductive PK where
  | int | bool | str
  deriving DecidableEq
def Pr.k : Pr → PK
  | .int _ => .int
  | .bool _ => .bool
  | .str _ => .str
def Pr.v : Pr → Value
  | .int n => .int .i64 n
  | .bool b => .bool b
  | .str s => .string s

def flatFs (P : Program) (rec_ : TypeId → Option (List PK)) : List Field → Nat → Option (List PK)
  | [], _ => some []
  | f :: r, off => match f.name != "_" && f.offset == off && (P.info? f.type).isSome && (P.underlying f.type).isSome with
    | false => none
    | true => match rec_ f.type with
      | none => none
      | some k => match P.cellsOf f.type == k.length && (aggB P f.type || k.length == 1) with
        | false => none
        | true => (flatFs P rec_ r (off + k.length)).map (k ++ ·)
def flatK (P : Program) : Nat → TypeId → Option (List PK)
  | 0, _ => none
  | d + 1, t => match P.underlying t with
    | some (.int .i64) => some [.int]
    | some .bool => some [.bool]
    | some .string => some [.str]
    | some (.struct fs) => match P.stoodInHeld t with
      | true => none
      | false => flatFs P (flatK P d) fs.toList 0
    | _ => none

theorem bbeq (a b : ByteArray) : (a == b) = decide (a = b) := by
  obtain ⟨x⟩ := a
  obtain ⟨y⟩ := b
  show (x == y) = _
  by_cases h : x = y <;> simp [h]

section
variable {P : Program}

def mkv (P : Program) (t : TypeId) (l : List Pr) : Value := match aggB P t with
  | true => .agg (l.map Pr.v).toArray
  | false => (l.map Pr.v).headD undef

theorem kinds_one {l : List Pr} {k : PK} (h : l.map Pr.k = [k]) : ∃ p, l = [p] ∧ p.k = k := by
  match l, h with
  | [p], h => exact ⟨p, rfl, by simpa using h⟩

theorem part_mkv {t : TypeId} {l : List Pr} {off n : Nat} (hi : (P.info? t).isSome = true) (hd : ∃ d, P.underlying t = some d) (hn : P.cellsOf t = n) (h1 : aggB P t = false → n = 1) (hle : off + n ≤ l.length) (w : World) :
    (part t (l.map Pr.v).toArray off).run P w = .ok (mkv P t ((l.drop off).take n)) w := by
  unfold mkv
  cases hg : aggB P t with
  | true =>
    rw [part_run hi hd hn (by simpa using hle) hg w]
    simp
  | false =>
    have := h1 hg
    subst this
    have hlt : off < l.length := by omega
    have e : l.drop off = l[off] :: l.drop (off + 1) := by rw [List.drop_eq_getElem_cons hlt]
    rw [part_run1 (v := l[off].v) hd (by simp [hlt]) hg w, e]
    rfl

theorem flatFs_eq {rec_ : TypeId → Option (List PK)} {D : Nat} (IH : ∀ (t : TypeId) (ks : List PK) (a b : List Pr), rec_ t = some ks → a.map Pr.k = ks → b.map Pr.k = ks → ∀ w, (Op.equalIn D t (mkv P t a) (mkv P t b)).run P w = .ok (decide (a = b)) w) :
    ∀ (fs : List Field) (off : Nat) (ks : List PK) (a b : List Pr), flatFs P rec_ fs off = some ks → ((a.drop off).take ks.length).map Pr.k = ks → ((b.drop off).take ks.length).map Pr.k = ks → off + ks.length ≤ a.length → off + ks.length ≤ b.length →
    ∀ w, (Op.eqFields D (a.map Pr.v).toArray (b.map Pr.v).toArray fs).run P w = .ok (decide ((a.drop off).take ks.length = (b.drop off).take ks.length)) w := by
  intro fs
  induction fs with
  | nil =>
    intro off ks a b h ha hb la lb w
    simp only [flatFs, Option.some.injEq] at h
    subst h
    simp [Op.eqFields]
  | cons f r ih =>
    intro off ks a b h ha hb la lb w
    unfold flatFs at h
    split at h
    · cases h
    · rename_i hc
      simp only [Bool.and_eq_true, bne_iff_ne, ne_eq, beq_iff_eq] at hc
      obtain ⟨⟨⟨hn, rfl⟩, hi⟩, hu⟩ := hc
      have hd' := Option.isSome_iff_exists.1 hu
      split at h
      · cases h
      · rename_i k hk
        split at h
        · cases h
        · rename_i hcs
          simp only [Bool.and_eq_true, Bool.or_eq_true, beq_iff_eq] at hcs
          obtain ⟨hcs, hone'⟩ := hcs
          have hone : aggB P f.type = false → k.length = 1 := fun hg => hone'.resolve_left (by simp [hg])
          obtain ⟨ks', hr, rfl⟩ := Option.map_eq_some_iff.1 h
          simp only [List.length_append] at la lb ha hb ⊢
          have sp : ∀ (l : List Pr) (i m n : Nat), (l.drop i).take (m + n) = (l.drop i).take m ++ (l.drop (i + m)).take n := by
            intro l i m n
            rw [List.take_add, List.drop_drop]
          rw [sp, List.map_append] at ha hb
          have ea := List.append_inj ha (by simp; omega)
          have eb := List.append_inj hb (by simp; omega)
          have pa := part_mkv (P := P) (t := f.type) (l := a) (off := f.offset) hi hd' hcs hone (by omega)
          have pb := part_mkv (P := P) (t := f.type) (l := b) (off := f.offset) hi hd' hcs hone (by omega)
          have he := IH f.type k ((a.drop f.offset).take k.length) ((b.drop f.offset).take k.length) hk ea.1 eb.1
          have hrest := ih (f.offset + k.length) ks' a b hr ea.2 eb.2 (by omega) (by omega)
          rw [Op.eqFields, if_pos hn]
          simp only [Sem.run_bind, pa, pb, Result.andThen_ok, he]
          rw [sp, sp]
          by_cases h : (a.drop f.offset).take k.length = (b.drop f.offset).take k.length
          · simp only [h, decide_true, Bool.not_true, Bool.false_eq_true, if_false, hrest, List.append_cancel_left_eq]
          · have hne : ¬ ((a.drop f.offset).take k.length ++ (a.drop (f.offset + k.length)).take ks'.length = (b.drop f.offset).take k.length ++ (b.drop (f.offset + k.length)).take ks'.length) := by
              intro e
              exact h (List.append_inj e (by simp; omega)).1
            simp [h, hne]

theorem flat_eq : ∀ (d : Nat) (t : TypeId) (ks : List PK) (D : Nat) (a b : List Pr), flatK P d t = some ks → d ≤ D → a.map Pr.k = ks → b.map Pr.k = ks → ∀ w, (Op.equalIn D t (mkv P t a) (mkv P t b)).run P w = .ok (decide (a = b)) w := by
  intro d
  induction d with
  | zero => intro t ks D a b h; simp [flatK] at h
  | succ d ih =>
    intro t ks D a b h hD ha hb w
    obtain ⟨D, rfl⟩ : ∃ D', D = D' + 1 := ⟨D - 1, by omega⟩
    unfold flatK at h
    split at h
    · rename_i hu
      simp only [Option.some.injEq] at h
      subst h
      obtain ⟨p, rfl, hp⟩ := kinds_one ha
      obtain ⟨q, rfl, hq⟩ := kinds_one hb
      cases p <;> simp [Pr.k] at hp
      cases q <;> simp [Pr.k] at hq
      rename_i x y
      have hg : aggB P t = false := by simp [aggB, hu]
      simp only [mkv, hg, List.map_cons, List.map_nil, List.headD_cons, Pr.v]
      have e : (Op.equalIn (D + 1) t (.int .i64 x) (.int .i64 y)).run P w = .ok (x == y) w := by simp [Op.equalIn, underlying, hu]
      rw [e]
      congr 1
      by_cases h : x = y <;> simp [h]
    · rename_i hu
      simp only [Option.some.injEq] at h
      subst h
      obtain ⟨p, rfl, hp⟩ := kinds_one ha
      obtain ⟨q, rfl, hq⟩ := kinds_one hb
      cases p <;> simp [Pr.k] at hp
      cases q <;> simp [Pr.k] at hq
      rename_i x y
      have hg : aggB P t = false := by simp [aggB, hu]
      simp only [mkv, hg, List.map_cons, List.map_nil, List.headD_cons, Pr.v]
      have e : (Op.equalIn (D + 1) t (.bool x) (.bool y)).run P w = .ok (x == y) w := by simp [Op.equalIn, underlying, hu]
      rw [e]
      congr 1
      by_cases h : x = y <;> simp [h]
    · rename_i hu
      simp only [Option.some.injEq] at h
      subst h
      obtain ⟨p, rfl, hp⟩ := kinds_one ha
      obtain ⟨q, rfl, hq⟩ := kinds_one hb
      cases p <;> simp [Pr.k] at hp
      cases q <;> simp [Pr.k] at hq
      rename_i x y
      have hg : aggB P t = false := by simp [aggB, hu]
      simp only [mkv, hg, List.map_cons, List.map_nil, List.headD_cons, Pr.v]
      have e : (Op.equalIn (D + 1) t (.string x) (.string y)).run P w = .ok (x == y) w := by simp [Op.equalIn, underlying, hu]
      rw [e, bbeq]
      congr 1
      by_cases h : x = y <;> simp [h]
    · rename_i fs hu
      split at h
      · cases h
      · rename_i hst
        have hg : aggB P t = true := by simp [aggB, hu]
        have hf : P.fieldsOf t = fs := by simp [Program.fieldsOf, hu]
        have := flatFs_eq (P := P) (D := D) (fun t ks a b h ha hb => ih t ks D a b h (by omega) ha hb) fs.toList 0 ks a b h (by rw [List.drop_zero, List.map_take, ha, List.take_length]) (by rw [List.drop_zero, List.map_take, hb, List.take_length]) (by rw [← ha]; simp) (by rw [← hb]; simp) w
        simp only [mkv, hg]
        rw [run_equalIn_struct w D t _ _ (by rw [hf]; exact hu) hst, hf, this]
        congr 2
        have la : a.length = ks.length := by rw [← ha]; simp
        have lb : b.length = ks.length := by rw [← hb]; simp
        rw [List.drop_zero, List.drop_zero, ← la, List.take_length, la, ← lb, List.take_length]
    · cases h

/-- '==' and '!=' on two structs, as the evaluator asks them. -/
theorem eqS {t : TypeId} {ks : List PK} {a b : List Pr} {k : Value → Prop} (h : flatK P 50 t = some ks) (hs : aggB P t = true) (hg : P.eqGuardType P.depth t = false) (ha : a.map Pr.k = ks) (hb : b.map Pr.k = ks) (hk : k (.bool (decide (a = b)))) :
    PureC P (do eqGuard .eql t (.tmp 0) (.tmp 0) (.agg (a.map Pr.v).toArray) (.agg (b.map Pr.v).toArray); Go.binOp .eql t (.agg (a.map Pr.v).toArray) (.agg (b.map Pr.v).toArray)) k := by
  refine ⟨_, fun w => ?_, hk⟩
  have e := flat_eq 50 t ks 10000 a b h (by decide) ha hb w
  simp only [mkv, hs] at e
  have e1 : (eqGuard .eql t (.tmp 0) (.tmp 0) (.agg (a.map Pr.v).toArray) (.agg (b.map Pr.v).toArray)).run P w = .ok () w := by
    simp [eqGuard, run_program, hg, Sem.run_bind]
  rw [Sem.run_bind, e1, Result.andThen_ok]
  show (do pure (.bool (← Op.equal t _ _)) : Sem Value).run P w = _
  rw [Sem.run_bind]
  show (Result.andThen ((Op.equalIn 10000 t _ _).run P w) _) = _
  rw [e]
  rfl
theorem neS {t : TypeId} {ks : List PK} {a b : List Pr} {k : Value → Prop} (h : flatK P 50 t = some ks) (hs : aggB P t = true) (hg : P.eqGuardType P.depth t = false) (ha : a.map Pr.k = ks) (hb : b.map Pr.k = ks) (hk : k (.bool (!decide (a = b)))) :
    PureC P (do eqGuard .neq t (.tmp 0) (.tmp 0) (.agg (a.map Pr.v).toArray) (.agg (b.map Pr.v).toArray); Go.binOp .neq t (.agg (a.map Pr.v).toArray) (.agg (b.map Pr.v).toArray)) k := by
  refine ⟨_, fun w => ?_, hk⟩
  have e := flat_eq 50 t ks 10000 a b h (by decide) ha hb w
  simp only [mkv, hs] at e
  have e1 : (eqGuard .neq t (.tmp 0) (.tmp 0) (.agg (a.map Pr.v).toArray) (.agg (b.map Pr.v).toArray)).run P w = .ok () w := by
    simp [eqGuard, run_program, hg, Sem.run_bind]
  rw [Sem.run_bind, e1, Result.andThen_ok]
  show (do pure (.bool (!(← Op.equal t _ _))) : Sem Value).run P w = _
  rw [Sem.run_bind]
  show (Result.andThen ((Op.equalIn 10000 t _ _).run P w) _) = _
  rw [e]
  rfl
/-- '==' of two strings. -/
theorem eqStr {a b : ByteArray} {k : Value → Prop} {t : TypeId} (hk : k (.bool (decide (a = b)))) : PureC P (Go.binOp .eql t (.string a) (.string b)) k := by
  refine ⟨_, fun w => ?_, hk⟩
  rw [← bbeq, beq_toListBytes]
  rfl
theorem neStr {a b : ByteArray} {k : Value → Prop} {t : TypeId} (hk : k (.bool (!decide (a = b)))) : PureC P (Go.binOp .neq t (.string a) (.string b)) k := by
  refine ⟨_, fun w => ?_, hk⟩
  rw [← bbeq, beq_toListBytes]
  rfl
end
end Go.Proofs.YtakdekkieobbaaaDoor.Ev
