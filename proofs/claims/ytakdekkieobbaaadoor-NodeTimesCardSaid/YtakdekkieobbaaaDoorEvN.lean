
/-
  Strings as lists of bytes; bits of numbers.
-/
import Derived.Test.YtakdekkieobbaaaDoorEvM
import Derived.Laws.Strings
import Derived.Laws.Strings2
import Derived.Laws.Strings3
import Derived.Laws.Concat
import Derived.Laws.BytesArg
import Derived.Laws.BitsAllLaws
import Derived.Laws.OwnMore
namespace Go.Proofs.YtakdekkieobbaaaDoor.Ev
open Go

def bs (l : List UInt8) : ByteArray := ⟨l.toArray⟩
theorem bs_of (s : ByteArray) : ∃ l, s = bs l := ⟨s.data.toList, by simp [bs]⟩
theorem bs_inj {a b : List UInt8} : bs a = bs b ↔ a = b := by
  constructor
  · intro h
    have := congrArg (fun s => s.data.toList) h
    simpa [bs] using this
  · rintro rfl; rfl
theorem bs_size (l : List UInt8) : (bs l).size = l.length := by simp [bs, ByteArray.size]
theorem bs_append (a b : List UInt8) : bs a ++ bs b = bs (a ++ b) := by
  apply ByteArray.ext
  simp [bs, ByteArray.data_append]
theorem bs_extract (l : List UInt8) (a b : Nat) : (bs l).extract a b = bs ((l.drop a).take (b - a)) := ByteArray.extract_mk l a b
def encU (x : UInt8) : List Value := [.int .u8 (x.toNat : Int)]
theorem codU : Codec 1 encU := ⟨fun _ => rfl, fun _ => rfl, by decide⟩

section
variable {P : Program} {k : Value → Prop} {l : List UInt8} {t : TypeId}
theorem idxS {kd : IntKind} {i : Int} {j : Nat} {x : UInt8} (hu : P.underlying t = some .string) (hi : i = (j : Int)) (hx : l[j]? = some x) (hk : k (.int .u8 (x.toNat : Int))) : PureC P (Instr.index t (.string (bs l)) (.int kd i)) k := by
  subst hi
  refine PureC.of (fun w => ?_) hk
  have lt := (List.getElem?_eq_some_iff.1 hx).1
  rw [run_index_string w t (bs l) kd j hu, dif_pos ⟨by omega, by rw [bs_size]; omega⟩]
  congr 1
  have : (bs l)[j]? = some x := by
    rw [ByteArray.getElem?_lt' _ _ (by rw [bs_size]; exact lt)]
    show some ((bs l).data[j]) = _
    rw [← hx, List.getElem?_eq_getElem lt]
    simp [bs]
  have h2 : (bs l)[j]'(by rw [bs_size]; exact lt) = x := by
    rw [ByteArray.getElem?_lt' _ _ (by rw [bs_size]; exact lt)] at this
    exact Option.some.inj this
  simp [h2]
theorem slc_at (hu : P.underlying t = some .string) (x : Value) (lo hi : Option Value) (w : World) : (Instr.sliceAt t x lo hi none).run P w = (Instr.slice t x lo hi none).run P w := by
  unfold Instr.sliceAt
  rw [Sem.run_bind, run_underlying hu, Result.andThen_ok]
theorem slcS {q q' : IntKind} {i j : Int} {a b : Nat} {r : List UInt8} (hu : P.underlying t = some .string) (hi : i = (a : Int)) (hj : j = (b : Int)) (hab : a ≤ b) (hb : b ≤ l.length) (hr : (l.drop a).take (b - a) = r) (hk : k (.string (bs r))) : PureC P (Instr.sliceAt t (.string (bs l)) (some (.int q i)) (some (.int q' j)) none) k := by
  subst hi hj hr
  refine PureC.of (fun w => ?_) hk
  rw [slc_at hu, run_slice_string w t (bs l) q q' a b hu (by omega) (by omega) (by rw [bs_size]; omega), bs_extract]
  rfl
theorem slcTo {q' : IntKind} {j : Int} {b : Nat} {r : List UInt8} (hu : P.underlying t = some .string) (hj : j = (b : Int)) (hb : b ≤ l.length) (hr : l.take b = r) (hk : k (.string (bs r))) : PureC P (Instr.sliceAt t (.string (bs l)) none (some (.int q' j)) none) k := by
  subst hj hr
  refine PureC.of (fun w => ?_) hk
  rw [slc_at hu, run_slice_string_to_if w t (bs l) q' b hu, if_pos ⟨by omega, by rw [bs_size]; omega⟩, bs_extract]
  rfl
theorem slcFrom {q' : IntKind} {j : Int} {b : Nat} {r : List UInt8} (hu : P.underlying t = some .string) (hj : j = (b : Int)) (hb : b ≤ l.length) (hr : l.drop b = r) (hk : k (.string (bs r))) : PureC P (Instr.sliceAt t (.string (bs l)) (some (.int q' j)) none none) k := by
  subst hj hr
  refine PureC.of (fun w => ?_) hk
  rw [slc_at hu, run_slice_string_from_if w t (bs l) q' b hu, if_pos ⟨by omega, by rw [bs_size]; omega⟩, bs_extract, bs_size]
  simp only [Int.toNat_natCast]
  rw [List.take_of_length_le (by simp)]
theorem addS {a b : List UInt8} (h : a.length + b.length ≤ 1000000) (hk : k (.string (bs (a ++ b)))) : PureC P (Go.binOp .add t (.string (bs a)) (.string (bs b))) k :=
  PureC.of (fun w => by
    rw [show Go.binOp .add t (.string (bs a)) (.string (bs b)) = Op.stringOp .add (bs a) (bs b) from rfl, run_string_add_sum w _ _ (by rw [bs_size, bs_size]; omega), bs_append]) hk
theorem eqS2 {a b : List UInt8} (hk : k (.bool (decide (a = b)))) : PureC P (Go.binOp .eql t (.string (bs a)) (.string (bs b))) k := eqStr (by
  have : decide (bs a = bs b) = decide (a = b) := by simp only [bs_inj]
  rw [this]; exact hk)
theorem neS2 {a b : List UInt8} (hk : k (.bool (!decide (a = b)))) : PureC P (Go.binOp .neq t (.string (bs a)) (.string (bs b))) k := neStr (by
  have : decide (bs a = bs b) = decide (a = b) := by simp only [bs_inj]
  rw [this]; exact hk)
theorem convI {s d : TypeId} {q : IntKind} {n m : Int} {kd : IntKind} (hs : (P.underlying s).isSome = true) (hd : P.underlying d = some (.int kd)) (hw : kd.wrap n = m) {w : World} {kk : Value → World → Prop} (hk : kk (.int kd m) w) : RunC P (Go.convert s d (.int q n)) w kk := by
  have hk2 : P.intKind d = kd := by unfold Program.intKind; rw [hd]
  exact ⟨_, _, by rw [run_convert_int w s d q n hs (by rw [hk2]; exact hd), hk2, hw], hk⟩
theorem shrC {kd yk : IntKind} {a : Int} {n : Nat} {y : Int} (hy : y = (n : Int)) (hn : n ≤ kd.bits) (hk : k (.int kd (a / 2 ^ n))) : PureC P (Go.binOp .shr t (.int kd a) (.int yk y)) k := by
  subst hy
  refine PureC.of (fun w => ?_) hk
  show (Op.shift .shr kd a yk n).run P w = _
  unfold Op.shift
  rw [if_neg (by omega)]
  simp only [Int.toNat_natCast, Nat.min_eq_left hn]
  rw [show ((2 : Int) ^ n) = ((2 ^ n : Nat) : Int) by simp, Int.fdiv_eq_ediv_of_nonneg _ (by exact Int.natCast_nonneg _)]
  rfl
theorem shrN {kd yk : IntKind} {a n : Nat} {y : Int} (hy : y = (n : Int)) (hn : n ≤ kd.bits) (hk : k (.int kd ((a / 2 ^ n : Nat) : Int))) : PureC P (Go.binOp .shr t (.int kd (a : Int)) (.int yk y)) k :=
  shrC hy hn (by
    have : ((a : Int) / 2 ^ n) = ((a / 2 ^ n : Nat) : Int) := by simp
    rw [this]; exact hk)
theorem shlC {kd yk : IntKind} {a : Int} {n : Nat} {y m : Int} (hy : y = (n : Int)) (hn : n ≤ kd.bits) (hw : kd.wrap (a * 2 ^ n) = m) (hk : k (.int kd m)) : PureC P (Go.binOp .shl t (.int kd a) (.int yk y)) k := by
  subst hy hw
  refine PureC.of (fun w => ?_) hk
  show (Op.shift .shl kd a yk n).run P w = _
  unfold Op.shift
  rw [if_neg (by omega)]
  simp only [Int.toNat_natCast, Nat.min_eq_left hn]
  rfl
theorem bitsC {op : BinOp} {kd : IntKind} {a b r : Int} (ho : op = .xor ∨ op = .or ∨ op = .and ∨ op = .andNot) (hr : ∀ w, (Op.intBits op kd a b).run P w = .ok (.int kd r) w) (hk : k (.int kd r)) : PureC P (Go.binOp op t (.int kd a) (.int kd b)) k :=
  PureC.of (fun w => by
    rw [← hr w]
    rcases ho with rfl | rfl | rfl | rfl <;> simp [Go.binOp]) hk
theorem neC {kd : IntKind} {a b : Int} (hk : k (.bool (a != b))) : PureC P (Go.binOp .neq t (.int kd a) (.int kd b)) k :=
  PureC.of (fun w => by simp [Go.binOp, Op.intCmp]) hk
theorem eqC {kd : IntKind} {a b : Int} (hk : k (.bool (a == b))) : PureC P (Go.binOp .eql t (.int kd a) (.int kd b)) k :=
  PureC.of (fun w => by simp [Go.binOp, Op.intCmp]) hk
theorem orC64 {a b : Nat} (ha : a < 2 ^ 63) (hb : b < 2 ^ 63) (hk : k (.int .i64 ((a ||| b : Nat) : Int))) : PureC P (Go.binOp .or t (.int .i64 (a : Int)) (.int .i64 (b : Int))) k :=
  PureC.of (fun w => by
    have hx : a ||| b < 2 ^ 63 := Nat.or_lt_two_pow ha hb
    rw [show Go.binOp .or t (.int .i64 (a : Int)) (.int .i64 (b : Int)) = Op.intBits .or .i64 (a : Int) (b : Int) by simp [Go.binOp]]
    show (pure (Value.int .i64 (IntKind.i64.wrap ((BitVec.ofInt 64 (a : Int) ||| BitVec.ofInt 64 (b : Int)).toNat : Int))) : Sem Value).run P w = _
    rw [BitVec.toNat_or, BitVec.ofInt_natCast, BitVec.ofInt_natCast, BitVec.toNat_ofNat, BitVec.toNat_ofNat, Nat.mod_eq_of_lt (by omega), Nat.mod_eq_of_lt (by omega), IntKind.wrap_i64]
    rw [show ((((a ||| b : Nat) : Int)) + 9223372036854775808) % 18446744073709551616 - 9223372036854775808 = ((a ||| b : Nat) : Int) by omega]
    rfl) hk
theorem xorC64 {a b : Nat} (ha : a < 2 ^ 63) (hb : b < 2 ^ 63) (hk : k (.int .i64 ((a ^^^ b : Nat) : Int))) : PureC P (Go.binOp .xor t (.int .i64 (a : Int)) (.int .i64 (b : Int))) k :=
  PureC.of (fun w => by
    have hx : a ^^^ b < 2 ^ 63 := Nat.xor_lt_two_pow ha hb
    rw [show Go.binOp .xor t (.int .i64 (a : Int)) (.int .i64 (b : Int)) = Op.intBits .xor .i64 (a : Int) (b : Int) by simp [Go.binOp]]
    show (pure (Value.int .i64 (IntKind.i64.wrap ((BitVec.ofInt 64 (a : Int) ^^^ BitVec.ofInt 64 (b : Int)).toNat : Int))) : Sem Value).run P w = _
    rw [BitVec.toNat_xor, BitVec.ofInt_natCast, BitVec.ofInt_natCast, BitVec.toNat_ofNat, BitVec.toNat_ofNat, Nat.mod_eq_of_lt (by omega), Nat.mod_eq_of_lt (by omega), IntKind.wrap_i64]
    rw [show ((((a ^^^ b : Nat) : Int)) + 9223372036854775808) % 18446744073709551616 - 9223372036854775808 = ((a ^^^ b : Nat) : Int) by omega]
    rfl) hk
theorem xorC32 {a b : Nat} (ha : a < 4294967296) (hb : b < 4294967296) (hk : k (.int .u32 ((a ^^^ b : Nat) : Int))) : PureC P (Go.binOp .xor t (.int .u32 (a : Int)) (.int .u32 (b : Int))) k :=
  bitsC (.inl rfl) (fun w => by rw [← u32_xor_nat a b ha hb]; rfl) hk
theorem andC32 {a b : Nat} (ha : a < 4294967296) (hb : b < 4294967296) (hk : k (.int .u32 ((a &&& b : Nat) : Int))) : PureC P (Go.binOp .and t (.int .u32 (a : Int)) (.int .u32 (b : Int))) k :=
  bitsC (.inr (.inr (.inl rfl))) (fun w => by rw [← u32_and_nat a b ha hb]; rfl) hk
theorem mulC32 {a b : Nat} (h : a * b < 4294967296) (hk : k (.int .u32 ((a * b : Nat) : Int))) : PureC P (Go.binOp .mul t (.int .u32 (a : Int)) (.int .u32 (b : Int))) k :=
  PureC.of (fun w => by
    rw [show Go.binOp .mul t (.int .u32 (a : Int)) (.int .u32 (b : Int)) = Op.intArith .mul .u32 (a : Int) (b : Int) by simp [Go.binOp]]
    show (pure (Value.int .u32 (IntKind.u32.wrap ((a : Int) * (b : Int)))) : Sem Value).run P w = _
    rw [IntKind.wrap_u32', show ((a : Int) * (b : Int)) = ((a * b : Nat) : Int) by simp, show (((a * b : Nat) : Int)) % 4294967296 = ((a * b : Nat) : Int) by omega]
    rfl) hk
theorem notC32 {a : Nat} (ha : a < 4294967296) (hk : k (.int .u32 ((4294967295 ^^^ a : Nat) : Int))) : PureC P (Op.unary .xor (.int .u32 (a : Int))) k :=
  PureC.of (fun w => by
    rw [← u32_xor_nat 4294967295 a (by omega) ha]; rfl) hk

/-- What a byte slice holds, as a string. -/
theorem strC {w : World} {src dst e : TypeId} {b o n c : Nat} {kk : Value → World → Prop} (hs : P.underlying src = some (.slice e)) (he : P.underlying e = some (.int .u8)) (hd : P.underlying dst = some .string) (hc : CellsAt w b o (l.flatMap encU)) (hl : l.length = n) (hk : kk (.string (bs l)) w) :
    RunC P (Go.convert src dst (.slice (some ⟨b, o, none⟩) n c)) w kk := by
  refine ⟨_, _, run_convert_bytes_arg w src e hs he b o n c (l.map fun x => (x.toNat : Int)) (by simpa using hl) (fun i hi => ?_) dst hd, ?_⟩
  · have hlt : i < l.length := by omega
    have := hc i (.int .u8 (l[i].toNat : Int)) (by
      have := flat_get codU (j := 0) (List.getElem?_eq_getElem hlt) rfl
      simpa [encU] using this)
    rw [this]
    simp [List.getD, hlt]
  · have : strOfNums (l.map fun x => (x.toNat : Int)) = bs l := by
      unfold strOfNums bs
      congr 2
      rw [List.map_map]
      conv => rhs; rw [← List.map_id l]
      apply List.map_congr_left
      intro x _
      simp
    rw [this]
    exact hk
theorem made_rep (v : Value) (n : Nat) : (madeCells #[v] n).toList = List.replicate n v := by
  unfold madeCells
  apply List.ext_getElem?
  intro i
  by_cases h : i < n
  · simp [h, Nat.mod_one]
  · simp [h]
end
end Go.Proofs.YtakdekkieobbaaaDoor.Ev
namespace Go.Proofs.YtakdekkieobbaaaDoor
open Go Ev
theorem Ev.ldc {w : World} {b o : Nat} {v : Value} {k : Value → Prop} (hc : w.cell? ⟨b, o, none⟩ = some v) (hk : k v) : LdC w b o k := ⟨v, hc, hk⟩
theorem Ev.lac {w : World} {b o n : Nat} {l : List Value} {k : Value → Prop} (hn : l.length = n) (hc : CellsAt w b o l) (hk : k (.agg l.toArray)) : LdA w b o n k := ⟨l, hn, hc, hk⟩
theorem Ev.ldFc {w : World} {T : Nat → Prop} {b o : Nat} {v : Value} {k : Value → Prop} (hc : w.cell? ⟨b, o, none⟩ = some v) (hT : ¬ T b) (hk : k v) : LdF (Ext T w) b o k := ⟨v, fun _ hw => hw.cell hc hT, hk⟩
theorem Ev.laFc {w : World} {T : Nat → Prop} {b o n : Nat} {l : List Value} {k : Value → Prop} (hn : l.length = n) (hc : CellsAt w b o l) (hT : ¬ T b) (hk : k (.agg l.toArray)) : LdG (Ext T w) b o n k := ⟨l, hn, fun _ hw => hw.cells hc hT, hk⟩

/-- A store into a slice of the call's own; what it turns. -/
theorem Ev.St.ownX {w0 w : World} {S : Nat → Prop} {H : List Ent} (h : St w0 S w H) (i : Nat) {e : TypeId} {size n o b : Nat} {n' c : Nat} {xs vs : List Value} {k : World → Prop} (hi : H[i]? = some (own e size (.slice (some ⟨b, 0, none⟩) n' c) n xs)) (hle : o + vs.length ≤ xs.length) (h1 : vs.all isOne = true)
    (hk : ∀ w', Ext (· = b) w w' → St w0 S w' (H.set i (own e size (.slice (some ⟨b, 0, none⟩) n' c) n (over xs o vs))) → k w') : StC w b o vs k := by
  obtain ⟨t, cs, hb, hl, ho, _⟩ := (h.ownSt i hi hle h1 (k := fun _ => True) fun _ _ => trivial).ex
  have h2 := h.ownSt i hi hle h1 (k := fun w' => Ext (· = b) w w' → k w') fun w' hS hx => hk w' hx hS
  obtain ⟨t', cs', hb', hl', ho', hk'⟩ := h2.ex
  exact ⟨t', cs', hb', hl', ho', hk' (Ext.set (S := (· = b)) (b := b) rfl t' _)⟩

/-- A cell is put into a slice of cells of the call's own. -/
theorem Ev.St.mkSlice {P : Program} {α : Type} {w0 w : World} {S : Nat → Prop} {H : List Ent} (h : St w0 S w H) {t e : TypeId} {sz bytes n : Nat} {z : Value} {enc : α → List Value} {xs : List α} {kl kc : IntKind} {k : Value → World → Prop}
    (hu : P.underlying t = some (.slice e)) (hs : (P.info? e).map (fun i => (i.size, i.bytes)) = some (sz, bytes)) (hz : (P.info? e).bind (·.zero) = some z) (h1 : n * sz ≤ 16777216) (h2 : bytes * n ≤ 281474976710656) (h3 : n ≤ maxLen)
    (hl : xs.length = n) (hcs : (madeCells z.cells (n * sz)).toList = xs.flatMap enc)
    (hk : ∀ b w', w0.heap.size ≤ b → St w0 S w' (H ++ [ownL e sz enc (.slice (some ⟨b, 0, none⟩) n n) xs]) → k (.slice (some ⟨b, 0, none⟩) n n) w') : RunC P (Instr.makeSlice t (.int kl (n : Int)) (.int kc (n : Int))) w k := by
  obtain ⟨ie, e1, e2⟩ := Option.map_eq_some_iff.1 hs
  obtain ⟨ie', e3, e4⟩ := Option.bind_eq_some_iff.1 hz
  obtain rfl := Option.some.inj (e1.symm.trans e3)
  simp only [Prod.mk.injEq] at e2
  obtain ⟨w', hr, ho, hg⟩ := run_makeSlice_full (P := P) w 0 t e ie z sz hu e1 e4 e2.1 kl kc n h1 (by rw [e2.2]; exact h2) h3 (Nat.zero_le _)
  refine ⟨_, _, hr, hk _ _ h.ext.size (h.made (Ext.of_grown hg |>.mono fun _ hb => by cases hb) ownL_local ?_ ?_)⟩
  · unfold ownL own
    rw [hl, ← hcs]
    exact ho
  · intro b hb
    obtain rfl : b = w.heap.size := by simpa [ownL, own, Value.ownBlock] using hb
    refine ⟨Nat.le_refl _, ?_⟩
    obtain ⟨_, ⟨h6, _⟩ | ⟨g, cap, cur, h6, _, h7, _⟩⟩ := ho
    · cases h6
    · cases h6
      exact (Array.getElem?_eq_some_iff.1 h7).1
theorem Ev.St.setL {α : Type} {sz : Nat} {enc : α → List Value} {w0 w : World} {S : Nat → Prop} {H : List Ent} (h : St w0 S w H) (C : Codec sz enc) (i : Nat) {e : TypeId} {b n c o k : Nat} {xs : List α} {d x : α} {vs : List Value} {K : World → Prop} (hi : H[i]? = some (ownL e sz enc (.slice (some ⟨b, 0, none⟩) n c) xs)) (hd : xs[k]? = some d) (ho : o = k * sz) (hv : vs = enc x)
    (hk : ∀ w', Ext (· = b) w w' → St w0 S w' (H.set i (ownL e sz enc (.slice (some ⟨b, 0, none⟩) n c) (xs.set k x))) → K w') : StC w b o vs K := by
  subst ho
  subst hv
  have hlt := (List.getElem?_eq_some_iff.1 hd).1
  have hle : k * sz + sz ≤ xs.length * sz := by rw [← Nat.succ_mul]; exact Nat.mul_le_mul_right _ hlt
  refine h.ownX i hi (by rw [flat_len C, C.len]; exact hle) (C.one x) (fun w' hx hS => hk w' hx ?_)
  have e := flat_over C (k := k) (j := 0) (y := x) (vs := enc x) hd (by rw [C.len]; omega) (over_whole (by rw [C.len, C.len]))
  rw [Nat.add_zero] at e
  rw [e] at hS
  unfold ownL
  rw [List.length_set]
  exact hS
end Go.Proofs.YtakdekkieobbaaaDoor
