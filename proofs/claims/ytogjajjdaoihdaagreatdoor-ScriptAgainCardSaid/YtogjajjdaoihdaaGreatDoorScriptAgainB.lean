/-
  Texts of this claim, joined: EvJ, EvK, EvH, EvM, EvN, EvO, EvP, Tab, Err.
-/
import Derived.Test.YtogjajjdaoihdaaGreatDoorScriptAgainA
import Derived.Deep.Upon
import Derived.Laws.Strings
import Derived.Laws.Strings2
import Derived.Laws.Strings3
import Derived.Laws.Concat
import Derived.Laws.BytesArg
import Derived.Laws.BitsAllLaws
import Derived.Laws.OwnMore
import Derived.Lib.AppendZerosOnto
import Derived.Laws.Slices
import Derived.Test.YtogjajjdaoihdaaGreatDoorProg
import Derived.LaidSub
import Derived.Stop.LaidTwo

namespace Go.Proofs.YtogjajjdaoihdaaGreatDoor.Ev
set_option maxRecDepth 20000
open Go

structure Codec {α : Type} (sz : Nat) (enc : α → List Value) : Prop where
 len : ∀ x, (enc x).length = sz
 one : ∀ x, (enc x).all isOne = true
 pos : 0 < sz

section
variable {α : Type} {sz : Nat} {enc : α → List Value}

theorem flat_len (C : Codec sz enc) (xs : List α) : (xs.flatMap enc).length = xs.length * sz := by
 induction xs with
 | nil => simp
 | cons x xs ih => rw [List.flatMap_cons, List.length_append, ih, C.len, List.length_cons]; rw [Nat.succ_mul]; omega
theorem flat_one (C : Codec sz enc) (xs : List α) : (xs.flatMap enc).all isOne = true := by
 induction xs with
 | nil => rfl
 | cons x xs ih => rw [List.flatMap_cons, List.all_append, ih, C.one]; rfl
theorem flat_split (C : Codec sz enc) : ∀ {xs : List α} {k : Nat} {x : α}, xs[k]? = some x → xs.flatMap enc = (xs.take k).flatMap enc ++ (enc x ++ (xs.drop (k + 1)).flatMap enc) ∧ ((xs.take k).flatMap enc).length = k * sz
 | [], _, _, h => by simp at h
 | y :: xs, 0, x, h => by
   simp only [List.getElem?_cons_zero, Option.some.injEq] at h
   subst h
   simp
 | y :: xs, k + 1, x, h => by
   simp only [List.getElem?_cons_succ] at h
   obtain ⟨h1, h2⟩ := flat_split C h
   constructor
   · rw [List.flatMap_cons, List.take_succ_cons, List.flatMap_cons, List.drop_succ_cons, List.append_assoc, ← h1]
   · rw [List.take_succ_cons, List.flatMap_cons, List.length_append, h2, C.len, Nat.succ_mul]; omega
theorem flat_get (C : Codec sz enc) {xs : List α} {k j : Nat} {x : α} {v : Value} (hx : xs[k]? = some x) (hv : (enc x)[j]? = some v) : (xs.flatMap enc)[k * sz + j]? = some v := by
 obtain ⟨h1, h2⟩ := flat_split C hx
 have hj := (List.getElem?_eq_some_iff.1 hv).1
 rw [h1, List.getElem?_append_right (by omega), h2, Nat.add_sub_cancel_left, List.getElem?_append_left hj]
 exact hv
theorem flat_sub (C : Codec sz enc) {xs : List α} {k j n : Nat} {x : α} (hx : xs[k]? = some x) (hn : j + n ≤ sz) : ((xs.flatMap enc).drop (k * sz + j)).take n = ((enc x).drop j).take n := by
 obtain ⟨h1, h2⟩ := flat_split C hx
 have hl := C.len x
 rw [h1, List.drop_append, h2, Nat.add_sub_cancel_left, List.drop_eq_nil_of_le (by omega), List.nil_append, List.drop_append, List.take_append_of_le_length (by simp; omega)]
theorem over_mid (A B D vs : List Value) (j : Nat) (h : j + vs.length ≤ B.length) : over (A ++ (B ++ D)) (A.length + j) vs = A ++ (over B j vs ++ D) := by
 unfold over
 rw [List.take_append, List.drop_append, List.take_of_length_le (by omega), Nat.add_sub_cancel_left, List.drop_eq_nil_of_le (by omega), List.take_append_of_le_length (by omega), List.nil_append]
 rw [show A.length + j + vs.length - A.length = j + vs.length by omega, List.drop_append_of_le_length h]
 simp
theorem flat_over (C : Codec sz enc) {xs : List α} {k j : Nat} {x y : α} {vs : List Value} (hx : xs[k]? = some x) (hn : j + vs.length ≤ sz) (hy : over (enc x) j vs = enc y) : over (xs.flatMap enc) (k * sz + j) vs = (xs.set k y).flatMap enc := by
 obtain ⟨h1, h2⟩ := flat_split C hx
 have hl := C.len x
 have hlt := (List.getElem?_eq_some_iff.1 hx).1
 rw [h1, ← h2, over_mid _ _ _ _ _ (by omega), hy]
 have hy' : (xs.set k y)[k]? = some y := by rw [List.getElem?_set_self hlt]
 rw [(flat_split C hy').1, List.take_set_of_le (by omega), List.drop_set_of_lt (by omega)]
theorem over_whole {cs vs : List Value} (h : vs.length = cs.length) : over cs 0 vs = vs := by
 unfold over
 rw [List.drop_eq_nil_of_le (by omega)]
 simp
theorem over_cons (p : Value) (cs vs : List Value) (o : Nat) : over (p :: cs) (o + 1) vs = p :: over cs o vs := by
 unfold over
 rw [List.take_succ_cons, show o + 1 + vs.length = (o + vs.length) + 1 by omega, List.drop_succ_cons]
 rfl

variable {G : α → Prop} {w w' : World} {S T : Nat → Prop} {a : Option Addr} {b o n : Nat} {xs : List α}
theorem Slc.ext (h : Slc w sz enc G a n xs) (hx : Ext S w w') (hS : ∀ b o, a = some ⟨b, o, none⟩ → ¬ S b) : Slc w' sz enc G a n xs :=
 ⟨h.len, h.max, fun k x hk => by
   obtain ⟨b, o, ha, hb, hc⟩ := h.cells k x hk
   exact ⟨b, o, ha, Nat.lt_of_lt_of_le hb hx.size, hx.cells hc (hS b o ha)⟩, h.good⟩
theorem Slc.no (h : Slc w sz enc G a n xs) (hx : Ext No w w') : Slc w' sz enc G a n xs := h.ext hx fun _ _ _ h => h
theorem Slc.at (h : Slc w sz enc G a n xs) {k : Nat} (hk : k < n) : ∃ b o x, xs[k]? = some x ∧ G x ∧ a = some ⟨b, o, none⟩ ∧ b < w.heap.size ∧ CellsAt w b (o + k * sz) (enc x) := by
 have hlt : k < xs.length := by rw [h.len]; exact hk
 obtain ⟨b, o, ha, hb, hc⟩ := h.cells k _ (List.getElem?_eq_getElem hlt)
 exact ⟨b, o, _, List.getElem?_eq_getElem hlt, h.good _ (List.getElem_mem hlt), ha, hb, hc⟩
theorem CellsAt.one {l : List Value} (h : CellsAt w b o l) (j : Nat) {v : Value} (hv : l[j]? = some v) : w.cell? ⟨b, o + j, none⟩ = some v := h j v hv
theorem CellsAt.lt {l : List Value} (h : CellsAt w b o l) (hl : 0 < l.length) : b < w.heap.size := cell_lt (h 0 _ (List.getElem?_eq_getElem hl))

theorem Slc.of_cells (C : Codec sz enc) (hl : xs.length = n) (hm : n ≤ 9223372036854775807) (hg : ∀ x ∈ xs, G x) (hc : ∀ (j : Nat) v, (xs.flatMap enc)[j]? = some v → ∃ b o, a = some ⟨b, o, none⟩ ∧ w.cell? ⟨b, o + j, none⟩ = some v) : Slc w sz enc G a n xs :=
 ⟨hl, hm, fun k x hk => by
   have hp := C.pos
   have hlx := C.len x
   obtain ⟨v0, hv0⟩ : ∃ v, (enc x)[0]? = some v := ⟨_, List.getElem?_eq_getElem (by omega)⟩
   obtain ⟨b, o, ha, hc0⟩ := hc _ _ (flat_get C hk hv0)
   refine ⟨b, o, ha, cell_lt hc0, fun j v hj => ?_⟩
   obtain ⟨b', o', ha', hc'⟩ := hc _ _ (flat_get C hk hj)
   rw [ha] at ha'
   simp only [Option.some.injEq, Addr.mk.injEq, and_true] at ha'
   obtain ⟨rfl, rfl⟩ := ha'
   rw [Nat.add_assoc]
   exact hc', hg⟩
theorem Slc.of_blk (C : Codec sz enc) {t : TypeId} {cs : List Value} (h : Blk w b t cs) (hl : xs.length = n) (hm : n ≤ 9223372036854775807) (hg : ∀ x ∈ xs, G x) (hs : (cs.drop o).take (xs.length * sz) = xs.flatMap enc) : Slc w sz enc G (some ⟨b, o, none⟩) n xs :=
 Slc.of_cells C hl hm hg fun j v hj => ⟨b, o, rfl, by
   have hlt := (List.getElem?_eq_some_iff.1 hj).1
   rw [flat_len C] at hlt
   rw [h.cell, ← List.getElem?_drop, ← List.getElem?_take_of_lt hlt, hs]
   exact hj⟩

def ownL {α : Type} (e : TypeId) (sz : Nat) (enc : α → List Value) (v : Value) (xs : List α) : Ent := own e sz v xs.length (xs.flatMap enc)
theorem ownL_local {e : TypeId} {v : Value} : (ownL e sz enc v xs).Local := own_local _ _ _ _ _
theorem ownL_slc (C : Codec sz enc) {e : TypeId} {c : Nat} (h : (ownL e sz enc (.slice a n c) xs).holds w) (hg : ∀ x ∈ xs, G x) : Slc w sz enc G a n xs := by
 obtain ⟨h1, ⟨h2, h3⟩ | ⟨g, cap, cur, h2, h3, h4, h5, h6, h7, h8⟩⟩ := h
 · cases h2
   have hx : xs = [] := List.eq_nil_of_length_eq_zero h3
   subst hx
   exact ⟨rfl, by decide, by simp, by simp⟩
 · cases h2
   refine Slc.of_cells C rfl (by unfold maxLen at h6; omega) hg fun j v hj => ⟨g, 0, rfl, ?_⟩
   have hlt := (List.getElem?_eq_some_iff.1 hj).1
   rw [flat_len C] at hlt
   rw [← h8, List.getElem?_take_of_lt (by omega)] at hj
   simp only [World.cell?, h4, Nat.zero_add]
   simpa using hj
end

section
variable {P : Program} {α : Type} {sz : Nat} {enc : α → List Value} {w0 w w' : World} {S T : Nat → Prop} {H : List Ent}

theorem oneCell_of {v : Value} (h : isOne v = true) : v.oneCell' = true := by cases v <;> simp_all [isOne, Value.oneCell']

theorem grew (h : St w0 S w H) {i : Nat} {e : TypeId} {size : Nat} {v v' : Value} {n n' : Nat} {xs xs' : List Value} (hi : H[i]? = some (own e size v n xs)) (ho : w'.ownsRow 0 e size v' n' xs') (hg : w.grownBy w' v.ownBlock) (hb : v'.ownBlock = v.ownBlock ∨ v'.ownBlock = some w.heap.size) :
   St w0 S w' (H.set i (own e size v' n' xs')) := by
 refine h.upd i hi (Ext.of_grown hg) (fun q hq => by simp [own, hq]) (own_local _ _ _ _ _) ho ?_
 intro q hq
 have hq : v'.ownBlock = some q := by simpa [own] using hq
 rcases hb with hb | hb
 · left; simp only [own]; rw [← hb, hq]; simp
 · right
   rw [hb] at hq
   simp only [Option.some.injEq] at hq
   subst hq
   refine ⟨Nat.le_refl _, ?_⟩
   obtain ⟨_, ⟨h6, _⟩ | ⟨g, cap, cur, h6, _, h7, _⟩⟩ := ho
   · rw [h6] at hb; simp [Value.ownBlock] at hb
   · rw [h6] at hb
     simp only [Value.ownBlock, Option.some.injEq] at hb
     subst hb
     exact (Array.getElem?_eq_some_iff.1 h7).1

theorem St.appS (h : St w0 S w H) (C : Codec sz enc) (i : Nat) {t e : TypeId} {bytes : Nat} {z v : Value} {a : Option Addr} {m c : Nat} {G : α → Prop} {xs ys : List α} {k : Value → World → Prop}
   (hu : P.underlying t = some (.slice e)) (hs : (P.info? e).map (fun i => (i.size, i.bytes)) = some (sz, bytes)) (hz : (P.info? e).bind (·.zero) = some z) (hzs : Nat.beq z.cells.size sz = true)
   (hi : H[i]? = some (ownL e sz enc v xs)) (hy : Slc w sz enc G a m ys) (h63 : xs.length + m ≤ maxLen) (hbytes : (xs.length + m) * bytes ≤ 140737488355328)
   (hk : ∀ a' c' w', St w0 S w' (H.set i (ownL e sz enc (.slice a' (xs.length + m) c') (xs ++ ys))) → k (.slice a' (xs.length + m) c') w') :
   RunC P (Builtin.append_ #[t, t] 0 #[v, .slice a m c]) w k := by
 obtain ⟨ie, h1', h2⟩ := Option.map_eq_some_iff.1 hs
 obtain ⟨ie', h3, h4⟩ := Option.bind_eq_some_iff.1 hz
 obtain rfl := Option.some.inj (h1'.symm.trans h3)
 simp only [Prod.mk.injEq] at h2
 have hlen := hy.len
 have hen : xs.length + m = (xs ++ ys).length := by simp [hlen]
 have hef : (xs ++ ys).flatMap enc = xs.flatMap enc ++ ys.flatMap enc := by simp
 have form : ∀ (v' : Value) (w' : World), w'.ownsRow 0 e sz v' (xs.length + m) (xs.flatMap enc ++ ys.flatMap enc) → ∃ a' c', v' = .slice a' (xs.length + m) c' := by
   rintro v' w' ⟨_, ⟨h6, h7⟩ | ⟨g, cap, cur, h6, _⟩⟩
   · exact ⟨none, 0, by rw [h6, h7]⟩
   · exact ⟨_, _, h6⟩
 cases a with
 | none =>
   have hm : ys = [] := by
     cases ys with
     | nil => rfl
     | cons y ys => obtain ⟨b, o, ha, _⟩ := hy.cells 0 y rfl; cases ha
   subst hm
   have hm : m = 0 := by simpa using hlen.symm
   subst hm
   have ho := h.get i hi
   obtain ⟨a', c', hv⟩ := form v w (by simpa [ownL, own] using ho)
   subst hv
   have hle : xs.length ≤ c' := by
     obtain ⟨_, ⟨h6, h7⟩ | ⟨g, cap, cur, h6, _, _, h8, _⟩⟩ := ho
     · simp only [Value.slice.injEq] at h6; omega
     · simp only [Value.slice.injEq] at h6; omega
   refine ⟨.slice a' (xs.length + 0) c', w, ?_, hk a' c' w ?_⟩
   · refine run_append_nothing w t t 0 e ie hu h1' a' (xs.length + 0) c' hle (.slice none 0 c) ⟨.inl ⟨_, hu⟩, fun w' => rfl, rfl, rfl, by simp, by simp⟩
   · have : H.set i (ownL e sz enc (.slice a' (xs.length + 0) c') (xs ++ [])) = H := by
       rw [List.append_nil]
       obtain ⟨hl, he⟩ := List.getElem?_eq_some_iff.1 hi
       apply List.ext_getElem?
       intro j
       rw [List.getElem?_set]
       split
       · rename_i he'
         subst he'
         simp [hl, he]
       · rfl
     rw [this]
     exact h
 | some a =>
   have hsp : ∀ j u, (ys.flatMap enc)[j]? = some u → w.cell? (a.add j) = some u := by
     intro j u hj
     have hlt := (List.getElem?_eq_some_iff.1 hj).1
     rw [flat_len C] at hlt
     have hk : j / sz < ys.length := by rw [Nat.div_lt_iff_lt_mul C.pos]; exact hlt
     obtain ⟨b, o, ha, _, hc⟩ := hy.cells (j / sz) _ (List.getElem?_eq_getElem hk)
     simp only [Option.some.injEq] at ha
     subst ha
     rw [add_none]
     have e1 : j = j / sz * sz + j % sz := by rw [Nat.mul_comm]; exact (Nat.div_add_mod j sz).symm
     have hmod : j % sz < (enc ys[j / sz]).length := by rw [C.len]; exact Nat.mod_lt _ C.pos
     have h5 := flat_get C (List.getElem?_eq_getElem hk) (List.getElem?_eq_getElem hmod)
     rw [← e1, hj] at h5
     simp only [Option.some.injEq] at h5
     have := hc (j % sz) u (by rw [List.getElem?_eq_getElem hmod, h5])
     rw [Nat.add_assoc, ← e1] at this
     exact this
   obtain ⟨v', w', hr, ho, hg, hnil, hb⟩ := run_append_own_at (P := P) w 0 t 0 e ie z sz bytes hu h1' h4 h2.1 h2.2 (Nat.eq_of_beq_eq_true hzs) C.pos v xs.length (xs.flatMap enc) (h.get i hi) a m c (ys.flatMap enc) (by rw [flat_len C, hlen])
     hsp (fun u hu => oneCell_of (List.all_eq_true.1 (flat_one C ys) u hu)) h63 hbytes (Nat.zero_le _)
   obtain ⟨a', c', rfl⟩ := form v' w' ho
   refine ⟨_, _, hr, hk a' c' w' ?_⟩
   have := grew h hi ho hg hb
   simpa [ownL, hlen] using this

theorem St.lit0 (h : St w0 S w H) {t e : TypeId} {sz : Nat} {k : Value → World → Prop}
   (hu : P.underlying t = some (.slice e)) (hs : (P.info? e).map (·.size) = some sz)
   (hk : ∀ b w', St w0 S w' (H ++ [own e sz (.slice (some ⟨b, 0, none⟩) 0 0) 0 []]) → k (.slice (some ⟨b, 0, none⟩) 0 0) w') : RunC P (Instr.buildSlice t 0 #[]) w k := by
 obtain ⟨ie, h1, h2⟩ := Option.map_eq_some_iff.1 hs
 refine ⟨.slice (some ⟨w.heap.size, 0, none⟩) 0 0, pushBlk w e [], ?_, hk w.heap.size (pushBlk w e []) ?_⟩
 · simp [Instr.buildSlice, underlying, hu, sizeOf, typeInfo, h1, Instr.fill, newRow, newObj, Sem.run, pushBlk]
   rw [show Array.range 0 = #[] from by simp]
   simp
 · refine h.made (Ext.push _ _ _ _) (own_local _ _ _ _ _) ⟨by simp, .inr ⟨w.heap.size, 0, #[], rfl, Nat.zero_le _, ?_, Nat.le_refl _, Nat.zero_le _, by simp, by simp⟩⟩ ?_
   · show (w.heap.push _)[w.heap.size]? = _
     rw [Array.getElem?_push, if_pos rfl]
   · intro q hq
     obtain rfl : q = w.heap.size := by simpa [own, Value.ownBlock] using hq
     simp [pushBlk]

theorem over_len {cs vs : List Value} {o : Nat} (h : o + vs.length ≤ cs.length) : (over cs o vs).length = cs.length := by
 simp only [over, List.length_append, List.length_take, List.length_drop]
 omega
theorem over_take {cs vs : List Value} {o n : Nat} (h : o + vs.length ≤ n) (hn : n ≤ cs.length) : (over cs o vs).take n = over (cs.take n) o vs := by
 have e := over_mid [] (cs.take n) (cs.drop n) vs o (by rw [List.length_take]; omega)
 simp only [List.nil_append, List.length_nil, Nat.zero_add, List.take_append_drop] at e
 have hl : (over (cs.take n) o vs).length = n := by rw [over_len (by rw [List.length_take]; omega), List.length_take]; omega
 rw [e, List.take_append_of_le_length (by omega), List.take_of_length_le (by omega)]

theorem St.ownSt (h : St w0 S w H) (i : Nat) {e : TypeId} {size n o b : Nat} {n' c : Nat} {xs vs : List Value} {k : World → Prop} (hi : H[i]? = some (own e size (.slice (some ⟨b, 0, none⟩) n' c) n xs)) (hle : o + vs.length ≤ xs.length) (h1 : vs.all isOne = true)
   (hk : ∀ w', St w0 S w' (H.set i (own e size (.slice (some ⟨b, 0, none⟩) n' c) n (over xs o vs))) → k w') : StC w b o vs k := by
 obtain ⟨h2, ⟨h3, _⟩ | ⟨g, cap, cur, h3, h4, h5, h6, h7, h8, h9⟩⟩ := h.get i hi
 · cases h3
 cases h3
 have hcl : n * size ≤ cur.size := by rw [h8]; exact Nat.mul_le_mul_right _ h6
 have hb : Blk w b e cur.toList := by simpa [Blk] using h5
 have hx : xs.length = n * size := h2
 refine ⟨e, cur.toList, hb, by simp; omega, by simpa using h1, hk _ (h.upd i hi (T := (· = b)) (Ext.set (S := (· = b)) (b := b) rfl e _) (fun q hq => by simp [own, Value.ownBlock, hq]) (own_local _ _ _ _ _) ?_ fun q hq => .inl hq)⟩
 have hov : (over cur.toList o vs).length = cur.size := by
   have hl : o + vs.length ≤ cur.size := by omega
   simp only [over, List.length_append, List.length_take, List.length_drop, Array.length_toList]
   omega
 refine ⟨by simp only [over, List.length_append, List.length_take, List.length_drop]; omega, .inr ⟨b, c, (over cur.toList o vs).toArray, rfl, h4, ?_, h6, h7, by rw [List.size_toArray, hov, h8], ?_⟩⟩
 · have := setBlk_blk (t := e) (cs := over cur.toList o vs) hb.lt
   exact this
 · rw [List.toList_toArray, over_take (by omega) (by simpa using hcl), h9]
end
end Go.Proofs.YtogjajjdaoihdaaGreatDoor.Ev

namespace Go.Proofs.YtogjajjdaoihdaaGreatDoor.Ev
set_option maxRecDepth 20000
open Go
section
variable {P : Program} {τ : Tab} {N d : Nat} {σ : Slots} {w : World} {ops rest : List Oper} {x y : Operand} {v : Value} {ty : TypeId} {pos : String} {after : Array Edge} {Q : Slots → World → Prop}
theorem sPut {k : Slots → Prop} (h : Nat.blt d N = true) (hk : k ((d, v) :: σ)) : put1 N (some d) v σ k := by
 simp only [put1]
 rw [h]
 exact hk
theorem sAsg (hx : ro σ x = some v) (hd : Nat.blt d N = true) (hk : evOpsR P τ N ops Q rest ((d, v) :: σ) w) :
   evOpsR P τ N ops Q (⟨some d, .assign x, ty, pos, after, none⟩ :: rest) σ w := by
 show evStep P τ N ops ⟨some d, .assign x, ty, pos, after, none⟩ (evOpsR P τ N ops Q rest) σ w
 unfold evStep
 simp only [guardK, isPure, ifaces, pureOp, hx, put1, hd]
 exact hk
theorem sMov (hx : ro σ x = some v) (hd : Nat.blt d N = true) (hk : evOpsR P τ N ops Q rest ((d, v) :: σ) w) :
   evOpsR P τ N ops Q (⟨some d, .move x, ty, pos, after, none⟩ :: rest) σ w := by
 show evStep P τ N ops ⟨some d, .move x, ty, pos, after, none⟩ (evOpsR P τ N ops Q rest) σ w
 unfold evStep
 simp only [guardK, isPure, ifaces, pureOp, hx, put1, hd]
 exact hk
theorem sNil {a : Addr} (hx : ro σ x = some (.pointer (some a))) (hd : Nat.blt d N = true) (hk : evOpsR P τ N ops Q rest ((d, .pointer (some a)) :: σ) w) :
   evOpsR P τ N ops Q (⟨some d, .nilCheck x, ty, pos, after, none⟩ :: rest) σ w := by
 show evStep P τ N ops ⟨some d, .nilCheck x, ty, pos, after, none⟩ (evOpsR P τ N ops Q rest) σ w
 unfold evStep
 simp only [guardK, isPure, ifaces, pureOp, hx, put1, hd]
 exact hk
theorem sSt {t b o n : Nat} {kd : TK} {z : List Value} (hx : ro σ x = some (.pointer (some ⟨b, o, none⟩))) (hy : ro σ y = some v) (ht : tl τ t = some ⟨n, kd, z⟩) (hn : Nat.beq (cellsL v).length n = true) (hk : StC w b o (cellsL v) fun w' => evOpsR P τ N ops Q rest σ w') :
   evOpsR P τ N ops Q (⟨none, .store t x y, ty, pos, after, none⟩ :: rest) σ w := by
 show evStep P τ N ops ⟨none, .store t x y, ty, pos, after, none⟩ (evOpsR P τ N ops Q rest) σ w
 unfold evStep
 simp only [guardK, isPure, worldOp, hx, hy, ht, hn, put1]
 exact hk
theorem sBox {t : TypeId} (hx : ro σ x = some v) (hd : Nat.blt d N = true) (hk : NewC w t (cellsL v) fun v w => evOpsR P τ N ops Q rest ((d, v) :: σ) w) :
   evOpsR P τ N ops Q (⟨some d, .box t x, ty, pos, after, none⟩ :: rest) σ w := by
 show evStep P τ N ops ⟨some d, .box t x, ty, pos, after, none⟩ (evOpsR P τ N ops Q rest) σ w
 unfold evStep
 simp only [guardK, isPure, worldOp, hx, put1, hd]
 exact hk
theorem sBuild {t : TypeId} {parts : Array (Nat × Operand)} {ps : List (Nat × Value)} {n : Nat} {fs : List (Nat × Nat × Bool)} (ht : tl τ t = some ⟨n, .struct fs, []⟩) (hp : ∀ k : List (Nat × Value) → Prop, k ps → roParts σ parts.toList k) (hr : ∀ w, (Instr.build t ps.toArray).run P w = .ok v w) (hd : Nat.blt d N = true) (hk : evOpsR P τ N ops Q rest ((d, v) :: σ) w) :
   evOpsR P τ N ops Q (⟨some d, .build t parts, ty, pos, after, none⟩ :: rest) σ w := by
 show evStep P τ N ops ⟨some d, .build t parts, ty, pos, after, none⟩ (evOpsR P τ N ops Q rest) σ w
 unfold evStep
 simp only [guardK, isPure, ifaces, pureOp, ht]
 refine hp _ ?_
 refine PureC.of hr ?_
 exact sPut hd hk
theorem eNil (h : Q σ w) : evOpsR P τ N ops Q [] σ w := h
theorem eNext {K : EV} {Q : EQ} (h : K Q σ w) : seqQ K Q .normal σ w := h
theorem eSeq {a b : Code} {Q : EQ} (h : evR P τ N a (seqQ (evR P τ N b) Q) σ w) : evR P τ N (.seq a b) Q σ w := h
theorem eReg {id : Nat} {ops : Array Oper} {Q : EQ} (h : evOpsR P τ N ops.toList (Q .normal) ops.toList σ w) : evR P τ N (.region id ops false) Q σ w := h
end

theorem St.stX {w0 w : World} {S : Nat → Prop} {H : List Ent} (h : St w0 S w H) (i : Nat) {b o : Nat} {t : TypeId} {cs vs : List Value} {k : World → Prop} (hi : H[i]? = some (Ev.blk b t cs)) (hle : o + vs.length ≤ cs.length) (h1 : vs.all isOne = true)
   (hk : ∀ w', Ext (· = b) w w' → St w0 S w' (H.set i (Ev.blk b t (over cs o vs))) → k w') : StC w b o vs k := by
 have hb := h.blk i hi
 have hx : Ext (· = b) w (setBlk w b t (over cs o vs)) := Ext.set (S := (· = b)) (b := b) rfl t _
 exact ⟨t, cs, hb, hle, by simpa using h1, hk _ hx (h.upd i hi (T := (· = b)) hx (fun c hc => by simp [Ev.blk, hc]) (blk_local _ _ _) (setBlk_blk hb.lt) (fun c hc => .inl hc))⟩

theorem index_run {α : Type} {P : Program} {sz : Nat} {enc : α → List Value} (C : Codec sz enc) {t e : TypeId} {xs : List α} {k : Nat} {x : α} {i : Int} (hu : P.underlying t = some (.array xs.length e)) (hi : (P.info? e).isSome = true) (hd : ∃ d, P.underlying e = some d) (hc : P.cellsOf e = sz) (hg : aggB P e = true) (hx : xs[k]? = some x) (hk : i = (k : Int)) (w : World) :
   (Instr.index t (.agg (xs.flatMap enc).toArray) (.int .i64 i)).run P w = .ok (.agg (enc x).toArray) w := by
 subst hk
 have hlt := (List.getElem?_eq_some_iff.1 hx).1
 have hs : k * sz + sz ≤ (xs.flatMap enc).length := by
   rw [flat_len C]
   have : (k + 1) * sz ≤ xs.length * sz := Nat.mul_le_mul_right _ hlt
   rw [Nat.succ_mul] at this
   exact this
 have h1 := part_run (P := P) (cs := xs.flatMap enc) (off := k * sz) hi hd hc hs hg w
 have h2 := flat_sub C (j := 0) (n := sz) hx (by omega)
 have h3 : (enc x).take sz = enc x := List.take_of_length_le (by rw [C.len]; exact Nat.le_refl _)
 rw [Nat.add_zero, List.drop_zero, h3] at h2
 rw [h2] at h1
 have hcw := cellsOf_run (P := P) hi w
 rw [hc] at hcw
 simp [Instr.index, underlying, hu, asIntOf, asAgg, hcw, h1, hlt]
end Go.Proofs.YtogjajjdaoihdaaGreatDoor.Ev

namespace Go.Proofs.YtogjajjdaoihdaaGreatDoor.Ev
set_option maxRecDepth 20000
open Go

inductive OT where
 | fin
 | take (i : Nat) (r : OT)
 | alt (i : Nat) (r : OT) (more : OT)

def OT.heads : OT → List Nat
 | .alt i _ m => i :: m.heads
 | _ => []

def evOne (P : Program) (τ : Tab) (N : Nat) (ops : Array Oper) (late : List Nat) (S : World → Prop) (i : Nat) (K : Slots → World → Prop) (σ : Slots) (w : World) : Prop :=
 match nthO ops.toList i with
 | some ⟨dst, op, _, _, _, g⟩ => guardK N ops.toList g σ
     (fun σ => match isPure op with
       | true => pureOp P τ σ op fun v => put1 N dst v σ fun σ => K σ w
       | false => match floats late i op with
         | true => (match op with
           | .load t x => match ro σ x, tl τ t with
             | some (.pointer (some ⟨b, o, none⟩)), some ⟨n, kd, _⟩ => (match kd.agg with
               | true => LdG S b o n fun v => put1 N dst v σ fun σ => K σ w
               | false => LdF S b o fun v => put1 N dst v σ fun σ => K σ w)
             | _, _ => False
           | _ => False)
         | false => worldOp P τ σ op w fun v w => KeepC (S w) (put1 N dst v σ fun σ => K σ w))
     (fun σ => put1 N dst undef σ fun σ => K σ w)
 | none => False

def evTree (P : Program) (τ : Tab) (N : Nat) (ops : Array Oper) (late : List Nat) (S : World → Prop) : OT → (Slots → World → Prop) → Slots → World → Prop
 | .fin, Q, σ, w => Q σ w
 | .take i r, Q, σ, w => evOne P τ N ops late S i (fun σ w => evTree P τ N ops late S r Q σ w) σ w
 | .alt i r .fin, Q, σ, w => evOne P τ N ops late S i (fun σ w => evTree P τ N ops late S r Q σ w) σ w
 | .alt i r m, Q, σ, w => evOne P τ N ops late S i (fun σ w => evTree P τ N ops late S r Q σ w) σ w ∧ evTree P τ N ops late S m Q σ w

def fl (ops : Array Oper) (late : List Nat) (i : Nat) : Bool := match ops[i]? with
 | some o => floats late i o.op
 | none => false

def treeOk (ops : Array Oper) (late : List Nat) : OT → Nat → Bool → Array Bool → Bool
 | .fin, n, chain, listed => chain || (Nat.beq n 0 && (Region.ready .any ops listed).isEmpty)
 | .take i r, n + 1, chain, listed => !chain && fl ops late i && Region.free .any ops listed i && (Region.ready .any ops listed).contains i && treeOk ops late r n false (listed.setIfInBounds i true)
 | .alt i r m, n + 1, chain, listed => (chain || Region.ready .any ops listed == i :: m.heads) && (ops[i]?).isSome && !fl ops late i && treeOk ops late r n false (listed.setIfInBounds i true) && treeOk ops late m (n + 1) true listed
 | _, 0, _, _ => false

section
variable {P : Program} {τ : Tab} {N : Nat}

theorem one_take (hτ : TabOk P τ) {ops : Array Oper} {late : List Nat} {S : World → Prop} {R : Exit → Act → World → Prop} (hs : Region.noSelect ops = true) (hR : ∀ c a w, ¬ R (.panic c) a w) {i fuel : Nat} {listed : Array Bool} {K : Slots → World → Prop} {σ : Slots} {a : Act} {w : World}
   (hf : Fits N σ a) (hS : S w) (h0 : fl ops late i = true) (h1 : Region.free .any ops listed i = true) (h2 : (Region.ready .any ops listed).contains i = true) (h : evOne P τ N ops late S i K σ w)
   (hK : ∀ σ a, Fits N σ a → K σ w → wpAnyH P .any ops R S fuel (listed.setIfInBounds i true) a w) : wpAnyH P .any ops R S (fuel + 1) listed a w := by
 unfold evOne at h
 rw [nthO_eq] at h
 cases ho : ops[i]? with
 | none =>
   have : ops.toList[i]? = none := by simpa using ho
   rw [this] at h; exact h.elim
 | some o =>
   have hol : ops.toList[i]? = some o := by simpa using ho
   rw [hol] at h
   unfold fl at h0
   rw [ho] at h0
   obtain ⟨dst, op, ty, pos, after, g⟩ := o
   simp only at h h0
   have take : ∀ (v : Value), YieldsIf P ops S ⟨dst, op, ty, pos, after, g⟩ v a → wpAnyH P .any ops R S fuel (listed.setIfInBounds i true) (a.put dst v) w → wpAnyH P .any ops R S (fuel + 1) listed a w := by
     intro v hy hgo
     exact wpAnyH_take (oi := ⟨dst, op, ty, pos, after, g⟩) ho hs h1 h2 (fun c a w hc => absurd hc (hR c _ w)) hy hS hgo
   rcases guard_sound (o := ⟨dst, op, ty, pos, after, g⟩) hf h with ⟨hw, σ', hf', h2⟩ | ⟨hw, σ', hf', h2⟩
   · cases hp : isPure op with
     | true =>
       rw [hp] at h2
       obtain ⟨v, hv, h3⟩ := pure_sound (o := ⟨dst, op, ty, pos, after, g⟩) hτ hf' h2
       obtain ⟨σ'', hf'', h4⟩ := put1_sound hf' h3
       exact take v (.inl ⟨hw, fun w _ => hv w⟩) (hK σ'' _ hf'' h4)
     | false =>
       rw [hp] at h2
       simp only at h2
       rw [h0] at h2
       simp only at h2
       split at h2
       · rename_i t x
         split at h2
         · rename_i b o n kd z hx ht
           have hyield : ∃ v, (∀ w, S w → (Instr.loadAt t (.pointer (some ⟨b, o, none⟩))).run P w = .ok v w) ∧ put1 N dst v σ' fun σ => K σ w := by
             cases hk : kd.agg with
             | true =>
               rw [hk] at h2
               obtain ⟨l, hl, hc, hv⟩ := h2.ex
               refine ⟨_, fun w' hw' => ?_, hv⟩
               obtain ⟨v, hr, hv⟩ := load_sound (P := P) (w := w') (b := b) (o := o) (k := fun v => v = .agg l.toArray) hτ ht (by rw [hk]; exact ⟨l, hl, hc w' hw', rfl⟩)
               rw [hr, hv]
             | false =>
               rw [hk] at h2
               obtain ⟨v, hc, hv⟩ := h2.ex
               refine ⟨v, fun w' hw' => ?_, hv⟩
               obtain ⟨u, hr, hu⟩ := load_sound (P := P) (w := w') (b := b) (o := o) (k := fun u => u = v) hτ ht (by rw [hk]; exact ⟨v, hc w' hw', rfl⟩)
               rw [hr, hu]
           obtain ⟨v, hv, h3⟩ := hyield
           obtain ⟨σ'', hf'', h4⟩ := put1_sound hf' h3
           refine take v (.inl ⟨hw, fun w' hw' => ?_⟩) (hK σ'' _ hf'' h4)
           simp only [execOp, ro_eval hf' hx]
           exact vrun (hv w' hw')
         · exact h2.elim
       · exact h2.elim
   · obtain ⟨σ'', hf'', h4⟩ := put1_sound hf' h2
     exact take undef (.inr ⟨hw, rfl⟩) (hK σ'' _ hf'' h4)

theorem one_alt (hτ : TabOk P τ) {ops : Array Oper} {late : List Nat} {S : World → Prop} {R : Exit → Act → World → Prop} {i fuel : Nat} {listed : Array Bool} {K : Slots → World → Prop} {σ : Slots} {a : Act} {w : World}
   (hf : Fits N σ a) (hS : S w) (h0 : fl ops late i = false) (h : evOne P τ N ops late S i K σ w)
   (hK : ∀ σ a w, Fits N σ a → S w → K σ w → wpAnyH P .any ops R S fuel (listed.setIfInBounds i true) a w) : wpOp P ops R i (fun a' w' => S w' ∧ wpAnyH P .any ops R S fuel (listed.setIfInBounds i true) a' w') a w := by
 unfold evOne at h
 rw [nthO_eq] at h
 cases ho : ops[i]? with
 | none =>
   have : ops.toList[i]? = none := by simpa using ho
   rw [this] at h; exact h.elim
 | some o =>
   have hol : ops.toList[i]? = some o := by simpa using ho
   rw [hol] at h
   unfold fl at h0
   rw [ho] at h0
   obtain ⟨dst, op, ty, pos, after, g⟩ := o
   simp only at h h0
   unfold wpOp
   rw [ho]
   rcases guard_sound (o := ⟨dst, op, ty, pos, after, g⟩) hf h with ⟨hw, σ', hf', h2⟩ | ⟨hw, σ', hf', h2⟩
   · cases hp : isPure op with
     | true => simp [floats, hp] at h0
     | false =>
       rw [hp] at h2
       simp only at h2
       rw [h0] at h2
       simp only at h2
       simp only [hw, if_true]
       refine .inl (Oper.wp_mono ?_ (world_sound (o := ⟨dst, op, ty, pos, after, g⟩) hτ hf' h2 R))
       rintro a' w' ⟨v, rfl, h3⟩
       obtain ⟨σ'', hf'', h4⟩ := put1_sound hf' h3.go
       exact ⟨h3.keep, hK σ'' _ w' hf'' h3.keep h4⟩
   · obtain ⟨σ'', hf'', h4⟩ := put1_sound hf' h2
     simp only [hw, Bool.false_eq_true, if_false]
     exact ⟨hS, hK σ'' _ w hf'' hS h4⟩

theorem tree_sound (hτ : TabOk P τ) {ops : Array Oper} {late : List Nat} {S : World → Prop} {Q : Slots → World → Prop} {R : Exit → Act → World → Prop} (hs : Region.noSelect ops = true) (hR : ∀ c a w, ¬ R (.panic c) a w) (hQ : ∀ a w σ, Fits N σ a → Q σ w → R .normal a w) :
   ∀ (tr : OT) (n : Nat) (listed : Array Bool) (σ : Slots) (a : Act) (w : World), Fits N σ a → S w →
     (treeOk ops late tr n false listed = true → evTree P τ N ops late S tr Q σ w → wpAnyH P .any ops R S n listed a w) ∧
     (∀ m, n = m + 1 → treeOk ops late tr n true listed = true → (tr = .fin ∨ evTree P τ N ops late S tr Q σ w) → ∀ i ∈ tr.heads, wpOp P ops R i (fun a' w' => S w' ∧ wpAnyH P .any ops R S m (listed.setIfInBounds i true) a' w') a w)
 | .fin, n, listed, σ, a, w, hf, hS => by
   refine ⟨fun hok h => ?_, fun m hm hok h i hi => by cases hi⟩
   cases n with
   | succ n => simp [treeOk] at hok
   | zero =>
     simp only [treeOk, Bool.false_or, Bool.and_eq_true, List.isEmpty_iff] at hok
     exact ⟨hok.2, hQ a w σ hf h⟩
 | .take i r, n, listed, σ, a, w, hf, hS => by
   cases n with
   | zero => exact ⟨fun hok => by simp [treeOk] at hok, fun m hm => by omega⟩
   | succ n =>
     refine ⟨fun hok h => ?_, fun m hm hok => by simp [treeOk] at hok⟩
     simp only [treeOk, Bool.not_false, Bool.true_and, Bool.and_eq_true] at hok
     obtain ⟨⟨⟨h0, h1⟩, h2⟩, h3⟩ := hok
     unfold evTree at h
     exact one_take hτ hs hR hf hS h0 h1 h2 h fun σ a hf hk => (tree_sound hτ hs hR hQ r n _ σ a w hf hS).1 h3 hk
 | .alt i r m, n, listed, σ, a, w, hf, hS => by
   cases n with
   | zero => exact ⟨fun hok => by simp [treeOk] at hok, fun m hm => by omega⟩
   | succ n =>
     have key : ∀ chain, treeOk ops late (.alt i r m) (n + 1) chain listed = true → evTree P τ N ops late S (.alt i r m) Q σ w → ∀ j ∈ (OT.alt i r m).heads, wpOp P ops R j (fun a' w' => S w' ∧ wpAnyH P .any ops R S n (listed.setIfInBounds j true) a' w') a w := by
       intro chain hok h j hj
       simp only [treeOk, Bool.and_eq_true, Bool.not_eq_true'] at hok
       obtain ⟨⟨⟨⟨_, _⟩, h0⟩, h3⟩, h4⟩ := hok
       have hb : evOne P τ N ops late S i (fun σ w => evTree P τ N ops late S r Q σ w) σ w ∧ (m = .fin ∨ evTree P τ N ops late S m Q σ w) := by
         cases m with
         | fin => unfold evTree at h; exact ⟨h, .inl rfl⟩
         | take i' r' => unfold evTree at h; exact ⟨h.1, .inr h.2⟩
         | alt i' r' m' => unfold evTree at h; exact ⟨h.1, .inr h.2⟩
       simp only [OT.heads, List.mem_cons] at hj
       rcases hj with rfl | hj
       · exact one_alt hτ hf hS h0 hb.1 fun σ a w hf hS hk => (tree_sound hτ hs hR hQ r n _ σ a w hf hS).1 h3 hk
       · exact (tree_sound hτ hs hR hQ m (n + 1) listed σ a w hf hS).2 n rfl h4 hb.2 j hj
     refine ⟨fun hok h => ?_, fun m' hm hok h => ?_⟩
     · have hr : Region.ready .any ops listed = (OT.alt i r m).heads := by
         simp only [treeOk, Bool.false_or, Bool.and_eq_true, beq_iff_eq] at hok
         exact hok.1.1.1.1
       exact wpAnyH_all hr (by simp [OT.heads]) (key false hok h)
     · obtain rfl : n = m' := by omega
       rcases h with h | h
       · cases h
       · exact key true hok h

def evTreeR (P : Program) (τ : Tab) (N : Nat) (ops : Array Oper) (late : List Nat) (S : World → Prop) (Q : Slots → World → Prop) (t : OT) : Slots → World → Prop :=
 OT.rec (motive := fun _ => Slots → World → Prop) Q (fun i _ ih => evOne P τ N ops late S i ih) (fun i _ m ih im σ w => match m with | .fin => evOne P τ N ops late S i ih σ w | _ => evOne P τ N ops late S i ih σ w ∧ im σ w) t
theorem evTreeR_eq (P : Program) (τ : Tab) (N : Nat) (ops : Array Oper) (late : List Nat) (S : World → Prop) (Q : Slots → World → Prop) : ∀ t : OT, evTreeR P τ N ops late S Q t = fun σ w => evTree P τ N ops late S t Q σ w
 | .fin => by funext σ w; unfold evTree; rfl
 | .take i r => by
   have ih := evTreeR_eq P τ N ops late S Q r
   show evOne P τ N ops late S i (evTreeR P τ N ops late S Q r) = _
   rw [ih]
   funext σ w
   rw [evTree]
 | .alt i r m => by
   have ih := evTreeR_eq P τ N ops late S Q r
   have im := evTreeR_eq P τ N ops late S Q m
   funext σ w
   show (match m with | .fin => evOne P τ N ops late S i (evTreeR P τ N ops late S Q r) σ w | _ => evOne P τ N ops late S i (evTreeR P τ N ops late S Q r) σ w ∧ evTreeR P τ N ops late S Q m σ w) = _
   rw [ih, im]
   cases m <;> rw [evTree]
   all_goals intro h; cases h

theorem drawT (hτ : TabOk P τ) (hm : P.follows .mixedOrders = true) {σ : Slots} {w : World} {ops : Array Oper} {Q : Slots → World → Prop} (late : List Nat) (T : Nat → Prop) (tr : OT)
   (hok : (Region.noSelect ops && treeOk ops late tr ops.size false (Array.replicate ops.size false)) = true)
   (h : ∀ w1, w1 = { w with drawn := w.drawn + 1 } → evTreeR P τ N ops late (Ext T w1) Q tr σ w1) : DrawC P τ N ops Q σ w := by
 replace h : ∀ w1, w1 = { w with drawn := w.drawn + 1 } → evTree P τ N ops late (Ext T w1) tr Q σ w1 := fun w1 h1 => by have := h w1 h1; rwa [evTreeR_eq] at this
 simp only [Bool.and_eq_true] at hok
 refine ⟨fun id a hf => ?_⟩
 refine wp_region_held (S := Ext T { w with drawn := w.drawn + 1 }) hm ?_
 exact (tree_sound (R := fun e a' w' => e = .normal ∧ ∃ σ', Fits N σ' a' ∧ Q σ' w') hτ hok.1 (by rintro c a w ⟨h, _⟩; cases h) (fun a w σ hf hq => ⟨rfl, σ, hf, hq⟩) tr _ _ σ a _ hf (Ext.refl _ _)).1 hok.2 (h _ rfl)
end

structure CutE (M : Slots → World → Prop) (σ : Slots) (w : World) : Prop where
 ex : ∃ σ', Sub σ' σ ∧ M σ' w
theorem DrawC.cut {P : Program} {τ : Tab} {N : Nat} {ops : Array Oper} {Q : Slots → World → Prop} {σ : Slots} {w : World} (M : Slots → World → Prop) (h : DrawC P τ N ops (CutE M) σ w) (hQ : ∀ σ w, M σ w → Q σ w) : DrawC P τ N ops Q σ w :=
 ⟨fun id a hf => wp_mono (h.go id a hf) fun e a' w' ⟨he, σ', hf', hm⟩ => by
   obtain ⟨σ'', hs, hm⟩ := hm.ex
   exact ⟨he, σ'', hf'.weaken hs.look_, hQ _ _ hm⟩⟩
end Go.Proofs.YtogjajjdaoihdaaGreatDoor.Ev

namespace Go.Proofs.YtogjajjdaoihdaaGreatDoor.Ev
set_option maxRecDepth 20000
open Go

section
variable {P : Program} {τ : Tab} {N : Nat} {σ σ' : Slots} {w : World} {Q : EQ}

end
end Go.Proofs.YtogjajjdaoihdaaGreatDoor.Ev
namespace Go.Proofs.YtogjajjdaoihdaaGreatDoor.Ev
open Go
theorem St.updMade {w0 w w' : World} {S T : Nat → Prop} {H : List Ent} (h : St w0 S w H) (i : Nat) {e e' f : Ent} (hi : H[i]? = some e) (k : Ext T w w') (hT : ∀ b, T b → b ∈ e.foot) (hl : e'.Local) (hh : e'.holds w') (hf : ∀ b ∈ e'.foot, b ∈ e.foot) (gl : f.Local) (gh : f.holds w') (gf : ∀ b ∈ f.foot, w.heap.size ≤ b ∧ b < w'.heap.size) : St w0 S w' (H.set i e' ++ [f]) := by
 refine (h.upd i hi k hT hl hh fun b hb => .inl (hf b hb)).add gl gh (fun b hb => ⟨.inr (Nat.le_trans h.ext.size (gf b hb).1), (gf b hb).2⟩) ?_
 intro q hq b hb hb'
 have lt : b < w.heap.size := by
   rcases List.mem_or_eq_of_mem_set hq with hq | rfl
   · exact (h.may q hq b hb).2
   · exact (h.may e (List.mem_of_getElem? hi) b (hf b hb)).2
 have := (gf b hb').1
 omega
end Go.Proofs.YtogjajjdaoihdaaGreatDoor.Ev

namespace Go.Proofs.YtogjajjdaoihdaaGreatDoor.Ev
set_option maxRecDepth 20000
open Go

def bs (l : List UInt8) : ByteArray := ⟨l.toArray⟩
theorem bs_of (s : ByteArray) : ∃ l, s = bs l := ⟨s.data.toList, by simp [bs]⟩
theorem bs_inj {a b : List UInt8} : bs a = bs b ↔ a = b := by
 constructor
 · intro h
   have := congrArg (fun s => s.data.toList) h
   simpa [bs] using this
 · rintro rfl; rfl
theorem bs_size (l : List UInt8) : (bs l).size = l.length := by simp [bs, ByteArray.size]
theorem bs_append (a b : List UInt8) : bs a ++ bs b = bs (a ++ b) := by
 apply ByteArray.ext
 simp [bs, ByteArray.data_append]
theorem bs_extract (l : List UInt8) (a b : Nat) : (bs l).extract a b = bs ((l.drop a).take (b - a)) := ByteArray.extract_mk l a b
def encU (x : UInt8) : List Value := [.int .u8 (x.toNat : Int)]
theorem codU : Codec 1 encU := ⟨fun _ => rfl, fun _ => rfl, by decide⟩

section
variable {P : Program} {k : Value → Prop} {l : List UInt8} {t : TypeId}
theorem idxS {kd : IntKind} {i : Int} {j : Nat} {x : UInt8} (hu : P.underlying t = some .string) (hi : i = (j : Int)) (hx : l[j]? = some x) (hk : k (.int .u8 (x.toNat : Int))) : PureC P (Instr.index t (.string (bs l)) (.int kd i)) k := by
 subst hi
 refine PureC.of (fun w => ?_) hk
 have lt := (List.getElem?_eq_some_iff.1 hx).1
 rw [run_index_string w t (bs l) kd j hu, dif_pos ⟨by omega, by rw [bs_size]; omega⟩]
 congr 1
 have : (bs l)[j]? = some x := by
   rw [ByteArray.getElem?_lt' _ _ (by rw [bs_size]; exact lt)]
   show some ((bs l).data[j]) = _
   rw [← hx, List.getElem?_eq_getElem lt]
   simp [bs]
 have h2 : (bs l)[j]'(by rw [bs_size]; exact lt) = x := by
   rw [ByteArray.getElem?_lt' _ _ (by rw [bs_size]; exact lt)] at this
   exact Option.some.inj this
 simp [h2]
theorem slc_at (hu : P.underlying t = some .string) (x : Value) (lo hi : Option Value) (w : World) : (Instr.sliceAt t x lo hi none).run P w = (Instr.slice t x lo hi none).run P w := by
 unfold Instr.sliceAt
 rw [Sem.run_bind, run_underlying hu, Result.andThen_ok]
theorem slcS {q q' : IntKind} {i j : Int} {a b : Nat} {r : List UInt8} (hu : P.underlying t = some .string) (hi : i = (a : Int)) (hj : j = (b : Int)) (hab : a ≤ b) (hb : b ≤ l.length) (hr : (l.drop a).take (b - a) = r) (hk : k (.string (bs r))) : PureC P (Instr.sliceAt t (.string (bs l)) (some (.int q i)) (some (.int q' j)) none) k := by
 subst hi hj hr
 refine PureC.of (fun w => ?_) hk
 rw [slc_at hu, run_slice_string w t (bs l) q q' a b hu (by omega) (by omega) (by rw [bs_size]; omega), bs_extract]
 rfl
theorem slcTo {q' : IntKind} {j : Int} {b : Nat} {r : List UInt8} (hu : P.underlying t = some .string) (hj : j = (b : Int)) (hb : b ≤ l.length) (hr : l.take b = r) (hk : k (.string (bs r))) : PureC P (Instr.sliceAt t (.string (bs l)) none (some (.int q' j)) none) k := by
 subst hj hr
 refine PureC.of (fun w => ?_) hk
 rw [slc_at hu, run_slice_string_to_if w t (bs l) q' b hu, if_pos ⟨by omega, by rw [bs_size]; omega⟩, bs_extract]
 rfl
theorem addS {a b : List UInt8} (h : a.length + b.length ≤ 1000000) (hk : k (.string (bs (a ++ b)))) : PureC P (Go.binOp .add t (.string (bs a)) (.string (bs b))) k :=
 PureC.of (fun w => by
   rw [show Go.binOp .add t (.string (bs a)) (.string (bs b)) = Op.stringOp .add (bs a) (bs b) from rfl, run_string_add_sum w _ _ (by rw [bs_size, bs_size]; omega), bs_append]) hk
theorem eqS2 {a b : List UInt8} (hk : k (.bool (decide (a = b)))) : PureC P (Go.binOp .eql t (.string (bs a)) (.string (bs b))) k := eqStr (by
 have : decide (bs a = bs b) = decide (a = b) := by simp only [bs_inj]
 rw [this]; exact hk)
theorem neS2 {a b : List UInt8} (hk : k (.bool (!decide (a = b)))) : PureC P (Go.binOp .neq t (.string (bs a)) (.string (bs b))) k := neStr (by
 have : decide (bs a = bs b) = decide (a = b) := by simp only [bs_inj]
 rw [this]; exact hk)
theorem convI {s d : TypeId} {q : IntKind} {n m : Int} {kd : IntKind} (hs : (P.underlying s).isSome = true) (hd : P.underlying d = some (.int kd)) (hw : kd.wrap n = m) {w : World} {kk : Value → World → Prop} (hk : kk (.int kd m) w) : RunC P (Go.convert s d (.int q n)) w kk := by
 have hk2 : P.intKind d = kd := by unfold Program.intKind; rw [hd]
 exact ⟨_, _, by rw [run_convert_int w s d q n hs (by rw [hk2]; exact hd), hk2, hw], hk⟩
theorem shrC {kd yk : IntKind} {a : Int} {n : Nat} {y : Int} (hy : y = (n : Int)) (hn : n ≤ kd.bits) (hk : k (.int kd (a / 2 ^ n))) : PureC P (Go.binOp .shr t (.int kd a) (.int yk y)) k := by
 subst hy
 refine PureC.of (fun w => ?_) hk
 show (Op.shift .shr kd a yk n).run P w = _
 unfold Op.shift
 rw [if_neg (by omega)]
 simp only [Int.toNat_natCast, Nat.min_eq_left hn]
 rw [show ((2 : Int) ^ n) = ((2 ^ n : Nat) : Int) by simp, Int.fdiv_eq_ediv_of_nonneg _ (by exact Int.natCast_nonneg _)]
 rfl
theorem shrN {kd yk : IntKind} {a n : Nat} {y : Int} (hy : y = (n : Int)) (hn : n ≤ kd.bits) (hk : k (.int kd ((a / 2 ^ n : Nat) : Int))) : PureC P (Go.binOp .shr t (.int kd (a : Int)) (.int yk y)) k :=
 shrC hy hn (by
   have : ((a : Int) / 2 ^ n) = ((a / 2 ^ n : Nat) : Int) := by simp
   rw [this]; exact hk)
theorem shlC {kd yk : IntKind} {a : Int} {n : Nat} {y m : Int} (hy : y = (n : Int)) (hn : n ≤ kd.bits) (hw : kd.wrap (a * 2 ^ n) = m) (hk : k (.int kd m)) : PureC P (Go.binOp .shl t (.int kd a) (.int yk y)) k := by
 subst hy hw
 refine PureC.of (fun w => ?_) hk
 show (Op.shift .shl kd a yk n).run P w = _
 unfold Op.shift
 rw [if_neg (by omega)]
 simp only [Int.toNat_natCast, Nat.min_eq_left hn]
 rfl
theorem bitsC {op : BinOp} {kd : IntKind} {a b r : Int} (ho : op = .xor ∨ op = .or ∨ op = .and ∨ op = .andNot) (hr : ∀ w, (Op.intBits op kd a b).run P w = .ok (.int kd r) w) (hk : k (.int kd r)) : PureC P (Go.binOp op t (.int kd a) (.int kd b)) k :=
 PureC.of (fun w => by
   rw [← hr w]
   rcases ho with rfl | rfl | rfl | rfl <;> simp [Go.binOp]) hk
theorem neC {kd : IntKind} {a b : Int} (hk : k (.bool (a != b))) : PureC P (Go.binOp .neq t (.int kd a) (.int kd b)) k :=
 PureC.of (fun w => by simp [Go.binOp, Op.intCmp]) hk
theorem eqC {kd : IntKind} {a b : Int} (hk : k (.bool (a == b))) : PureC P (Go.binOp .eql t (.int kd a) (.int kd b)) k :=
 PureC.of (fun w => by simp [Go.binOp, Op.intCmp]) hk
theorem orC64 {a b : Nat} (ha : a < 2 ^ 63) (hb : b < 2 ^ 63) (hk : k (.int .i64 ((a ||| b : Nat) : Int))) : PureC P (Go.binOp .or t (.int .i64 (a : Int)) (.int .i64 (b : Int))) k :=
 PureC.of (fun w => by
   have hx : a ||| b < 2 ^ 63 := Nat.or_lt_two_pow ha hb
   rw [show Go.binOp .or t (.int .i64 (a : Int)) (.int .i64 (b : Int)) = Op.intBits .or .i64 (a : Int) (b : Int) by simp [Go.binOp]]
   show (pure (Value.int .i64 (IntKind.i64.wrap ((BitVec.ofInt 64 (a : Int) ||| BitVec.ofInt 64 (b : Int)).toNat : Int))) : Sem Value).run P w = _
   rw [BitVec.toNat_or, BitVec.ofInt_natCast, BitVec.ofInt_natCast, BitVec.toNat_ofNat, BitVec.toNat_ofNat, Nat.mod_eq_of_lt (by omega), Nat.mod_eq_of_lt (by omega), IntKind.wrap_i64]
   rw [show ((((a ||| b : Nat) : Int)) + 9223372036854775808) % 18446744073709551616 - 9223372036854775808 = ((a ||| b : Nat) : Int) by omega]
   rfl) hk
theorem xorC32 {a b : Nat} (ha : a < 4294967296) (hb : b < 4294967296) (hk : k (.int .u32 ((a ^^^ b : Nat) : Int))) : PureC P (Go.binOp .xor t (.int .u32 (a : Int)) (.int .u32 (b : Int))) k :=
 bitsC (.inl rfl) (fun w => by rw [← u32_xor_nat a b ha hb]; rfl) hk
theorem andC32 {a b : Nat} (ha : a < 4294967296) (hb : b < 4294967296) (hk : k (.int .u32 ((a &&& b : Nat) : Int))) : PureC P (Go.binOp .and t (.int .u32 (a : Int)) (.int .u32 (b : Int))) k :=
 bitsC (.inr (.inr (.inl rfl))) (fun w => by rw [← u32_and_nat a b ha hb]; rfl) hk
theorem mulC32 {a b : Nat} (h : a * b < 4294967296) (hk : k (.int .u32 ((a * b : Nat) : Int))) : PureC P (Go.binOp .mul t (.int .u32 (a : Int)) (.int .u32 (b : Int))) k :=
 PureC.of (fun w => by
   rw [show Go.binOp .mul t (.int .u32 (a : Int)) (.int .u32 (b : Int)) = Op.intArith .mul .u32 (a : Int) (b : Int) by simp [Go.binOp]]
   show (pure (Value.int .u32 (IntKind.u32.wrap ((a : Int) * (b : Int)))) : Sem Value).run P w = _
   rw [IntKind.wrap_u32', show ((a : Int) * (b : Int)) = ((a * b : Nat) : Int) by simp, show (((a * b : Nat) : Int)) % 4294967296 = ((a * b : Nat) : Int) by omega]
   rfl) hk
theorem notC32 {a : Nat} (ha : a < 4294967296) (hk : k (.int .u32 ((4294967295 ^^^ a : Nat) : Int))) : PureC P (Op.unary .xor (.int .u32 (a : Int))) k :=
 PureC.of (fun w => by
   rw [← u32_xor_nat 4294967295 a (by omega) ha]; rfl) hk

theorem strC {w : World} {src dst e : TypeId} {b o n c : Nat} {kk : Value → World → Prop} (hs : P.underlying src = some (.slice e)) (he : P.underlying e = some (.int .u8)) (hd : P.underlying dst = some .string) (hc : CellsAt w b o (l.flatMap encU)) (hl : l.length = n) (hk : kk (.string (bs l)) w) :
   RunC P (Go.convert src dst (.slice (some ⟨b, o, none⟩) n c)) w kk := by
 refine ⟨_, _, run_convert_bytes_arg w src e hs he b o n c (l.map fun x => (x.toNat : Int)) (by simpa using hl) (fun i hi => ?_) dst hd, ?_⟩
 · have hlt : i < l.length := by omega
   have := hc i (.int .u8 (l[i].toNat : Int)) (by
     have := flat_get codU (j := 0) (List.getElem?_eq_getElem hlt) rfl
     simpa [encU] using this)
   rw [this]
   simp [List.getD, hlt]
 · have : strOfNums (l.map fun x => (x.toNat : Int)) = bs l := by
     unfold strOfNums bs
     congr 2
     rw [List.map_map]
     conv => rhs; rw [← List.map_id l]
     apply List.map_congr_left
     intro x _
     simp
   rw [this]
   exact hk
theorem made_rep (v : Value) (n : Nat) : (madeCells #[v] n).toList = List.replicate n v := by
 unfold madeCells
 apply List.ext_getElem?
 intro i
 by_cases h : i < n
 · simp [h, Nat.mod_one]
 · simp [h]
end
end Go.Proofs.YtogjajjdaoihdaaGreatDoor.Ev
namespace Go.Proofs.YtogjajjdaoihdaaGreatDoor
open Go Ev
theorem Ev.ldc {w : World} {b o : Nat} {v : Value} {k : Value → Prop} (hc : w.cell? ⟨b, o, none⟩ = some v) (hk : k v) : LdC w b o k := ⟨v, hc, hk⟩
theorem Ev.lac {w : World} {b o n : Nat} {l : List Value} {k : Value → Prop} (hn : l.length = n) (hc : CellsAt w b o l) (hk : k (.agg l.toArray)) : LdA w b o n k := ⟨l, hn, hc, hk⟩
theorem Ev.ldFc {w : World} {T : Nat → Prop} {b o : Nat} {v : Value} {k : Value → Prop} (hc : w.cell? ⟨b, o, none⟩ = some v) (hT : ¬ T b) (hk : k v) : LdF (Ext T w) b o k := ⟨v, fun _ hw => hw.cell hc hT, hk⟩
theorem Ev.laFc {w : World} {T : Nat → Prop} {b o n : Nat} {l : List Value} {k : Value → Prop} (hn : l.length = n) (hc : CellsAt w b o l) (hT : ¬ T b) (hk : k (.agg l.toArray)) : LdG (Ext T w) b o n k := ⟨l, hn, fun _ hw => hw.cells hc hT, hk⟩

theorem Ev.St.ownX {w0 w : World} {S : Nat → Prop} {H : List Ent} (h : St w0 S w H) (i : Nat) {e : TypeId} {size n o b : Nat} {n' c : Nat} {xs vs : List Value} {k : World → Prop} (hi : H[i]? = some (own e size (.slice (some ⟨b, 0, none⟩) n' c) n xs)) (hle : o + vs.length ≤ xs.length) (h1 : vs.all isOne = true)
   (hk : ∀ w', Ext (· = b) w w' → St w0 S w' (H.set i (own e size (.slice (some ⟨b, 0, none⟩) n' c) n (over xs o vs))) → k w') : StC w b o vs k := by
 obtain ⟨t, cs, hb, hl, ho, _⟩ := (h.ownSt i hi hle h1 (k := fun _ => True) fun _ _ => trivial).ex
 have h2 := h.ownSt i hi hle h1 (k := fun w' => Ext (· = b) w w' → k w') fun w' hS hx => hk w' hx hS
 obtain ⟨t', cs', hb', hl', ho', hk'⟩ := h2.ex
 exact ⟨t', cs', hb', hl', ho', hk' (Ext.set (S := (· = b)) (b := b) rfl t' _)⟩

theorem Ev.St.mkSlice {P : Program} {α : Type} {w0 w : World} {S : Nat → Prop} {H : List Ent} (h : St w0 S w H) {t e : TypeId} {sz bytes n : Nat} {z : Value} {enc : α → List Value} {xs : List α} {kl kc : IntKind} {k : Value → World → Prop}
   (hu : P.underlying t = some (.slice e)) (hs : (P.info? e).map (fun i => (i.size, i.bytes)) = some (sz, bytes)) (hz : (P.info? e).bind (·.zero) = some z) (h1 : n * sz ≤ 16777216) (h2 : bytes * n ≤ 281474976710656) (h3 : n ≤ maxLen)
   (hl : xs.length = n) (hcs : (madeCells z.cells (n * sz)).toList = xs.flatMap enc)
   (hk : ∀ b w', w0.heap.size ≤ b → St w0 S w' (H ++ [ownL e sz enc (.slice (some ⟨b, 0, none⟩) n n) xs]) → k (.slice (some ⟨b, 0, none⟩) n n) w') : RunC P (Instr.makeSlice t (.int kl (n : Int)) (.int kc (n : Int))) w k := by
 obtain ⟨ie, e1, e2⟩ := Option.map_eq_some_iff.1 hs
 obtain ⟨ie', e3, e4⟩ := Option.bind_eq_some_iff.1 hz
 obtain rfl := Option.some.inj (e1.symm.trans e3)
 simp only [Prod.mk.injEq] at e2
 obtain ⟨w', hr, ho, hg⟩ := run_makeSlice_full (P := P) w 0 t e ie z sz hu e1 e4 e2.1 kl kc n h1 (by rw [e2.2]; exact h2) h3 (Nat.zero_le _)
 refine ⟨_, _, hr, hk _ _ h.ext.size (h.made (Ext.of_grown hg |>.mono fun _ hb => by cases hb) ownL_local ?_ ?_)⟩
 · unfold ownL own
   rw [hl, ← hcs]
   exact ho
 · intro b hb
   obtain rfl : b = w.heap.size := by simpa [ownL, own, Value.ownBlock] using hb
   refine ⟨Nat.le_refl _, ?_⟩
   obtain ⟨_, ⟨h6, _⟩ | ⟨g, cap, cur, h6, _, h7, _⟩⟩ := ho
   · cases h6
   · cases h6
     exact (Array.getElem?_eq_some_iff.1 h7).1
theorem Ev.St.setL {α : Type} {sz : Nat} {enc : α → List Value} {w0 w : World} {S : Nat → Prop} {H : List Ent} (h : St w0 S w H) (C : Codec sz enc) (i : Nat) {e : TypeId} {b n c o k : Nat} {xs : List α} {d x : α} {vs : List Value} {K : World → Prop} (hi : H[i]? = some (ownL e sz enc (.slice (some ⟨b, 0, none⟩) n c) xs)) (hd : xs[k]? = some d) (ho : o = k * sz) (hv : vs = enc x)
   (hk : ∀ w', Ext (· = b) w w' → St w0 S w' (H.set i (ownL e sz enc (.slice (some ⟨b, 0, none⟩) n c) (xs.set k x))) → K w') : StC w b o vs K := by
 subst ho
 subst hv
 have hlt := (List.getElem?_eq_some_iff.1 hd).1
 have hle : k * sz + sz ≤ xs.length * sz := by rw [← Nat.succ_mul]; exact Nat.mul_le_mul_right _ hlt
 refine h.ownX i hi (by rw [flat_len C, C.len]; exact hle) (C.one x) (fun w' hx hS => hk w' hx ?_)
 have e := flat_over C (k := k) (j := 0) (y := x) (vs := enc x) hd (by rw [C.len]; omega) (over_whole (by rw [C.len, C.len]))
 rw [Nat.add_zero] at e
 rw [e] at hS
 unfold ownL
 rw [List.length_set]
 exact hS
end Go.Proofs.YtogjajjdaoihdaaGreatDoor

namespace Go.Proofs.YtogjajjdaoihdaaGreatDoor.Ev
set_option maxRecDepth 20000
open Go Go.WideShapes

theorem apart_symm' : ∀ a b : Ent, (∀ x ∈ a.foot, x ∉ b.foot) → ∀ x ∈ b.foot, x ∉ a.foot := fun _ _ h x hx hy => h x hy hx

section
variable {w0 w w' w'' : World} {S T : Nat → Prop} {H H' H'' A B : List Ent}

theorem St.sel (h : St w0 S w H) (is : List Nat) (hn : is.Nodup) : St w0 S w (is.filterMap fun i => H[i]?) := by
 have mem : ∀ e ∈ is.filterMap (fun i => H[i]?), e ∈ H := fun e he => by
   obtain ⟨i, _, hi⟩ := List.mem_filterMap.1 he
   exact List.mem_of_getElem? hi
 refine ⟨h.ext, fun e he => h.each e (mem e he), fun e he => h.loc e (mem e he), fun e he => h.may e (mem e he), ?_⟩
 rw [List.pairwise_filterMap]
 refine List.Pairwise.imp ?_ hn
 intro i j hij e he f hf
 exact pairwise_at apart_symm' h.apart he hf hij

theorem St.apartAt (h : St w0 S w H) (i j : Nat) {e f : Ent} (hi : H[i]? = some e) (hj : H[j]? = some f) (hne : i ≠ j) (b : Nat) (hb : b ∈ e.foot) : b ∉ f.foot := pairwise_at apart_symm' h.apart hi hj hne b hb
theorem St.ne (h : St w0 S w H) (i j : Nat) {b c : Nat} {t u : TypeId} {cs ds : List Value} (hi : H[i]? = some (Ev.blk b t cs)) (hj : H[j]? = some (Ev.blk c u ds)) (hne : i ≠ j) : b ≠ c := by
 have := pairwise_at apart_symm' h.apart hi hj hne b (by simp [Ev.blk])
 simpa [Ev.blk] using this

theorem St.laX (h : St w0 S w H) (i : Nat) {b o n : Nat} {t : TypeId} {cs : List Value} {k : Value → Prop} (hi : H[i]? = some (Ev.blk b t cs)) (hn : Nat.ble (o + n) cs.length = true) (hk : k (.agg ((cs.drop o).take n).toArray)) : LdA w b o n k := by
 have hle := Nat.le_of_ble_eq_true hn
 have hl : ((cs.drop o).take n).length = n := by rw [List.length_take, List.length_drop]; omega
 exact h.la i hi hl (by rw [hl]) hk

theorem St.laXF (h : St w0 S w H) (i : Nat) {b o n : Nat} {t : TypeId} {cs : List Value} {k : Value → Prop} (hi : H[i]? = some (Ev.blk b t cs)) (hn : Nat.ble (o + n) cs.length = true) (hT : ¬ T b) (hk : k (.agg ((cs.drop o).take n).toArray)) : LdG (Ext T w) b o n k := by
 have hle := Nat.le_of_ble_eq_true hn
 have hl : ((cs.drop o).take n).length = n := by rw [List.length_take, List.length_drop]; omega
 exact h.laF i hi hl (by rw [hl]) hT hk

structure Has (w : World) (H : List Ent) : Prop where
 each : ∀ e ∈ H, e.holds w
 loc : ∀ e ∈ H, e.Local
 lt : ∀ e ∈ H, ∀ b ∈ e.foot, b < w.heap.size
 apart : H.Pairwise fun e f => ∀ b ∈ e.foot, b ∉ f.foot

abbrev inF (H : List Ent) : Nat → Prop := fun b => ∃ e ∈ H, b ∈ e.foot

structure Turns (w w' : World) (H H' : List Ent) : Prop where
 ext : Ext (inF H) w w'
 has : Has w' H'
 foot : ∀ e ∈ H', ∀ b ∈ e.foot, inF H b ∨ w.heap.size ≤ b

theorem St.has (h : St w0 S w H) : Has w H := ⟨h.each, h.loc, fun e he b hb => (h.may e he b hb).2, h.apart⟩
theorem Has.get (h : Has w H) (i : Nat) {e : Ent} (hi : H[i]? = some e) : e.holds w := h.each e (List.mem_of_getElem? hi)
theorem Has.start (h : Has w H) : St w (inF H) w H := ⟨Ext.refl _ _, h.each, h.loc, fun e he b hb => ⟨.inl ⟨e, he, hb⟩, h.lt e he b hb⟩, h.apart⟩
theorem Has.read (h : Has w H) (hx : Ext No w w') : Has w' H :=
 ⟨fun e he => h.loc e he w w' (fun b hb => hx.block b (h.lt e he b hb) id) (h.each e he), h.loc, fun e he b hb => Nat.lt_of_lt_of_le (h.lt e he b hb) hx.size, h.apart⟩
theorem Has.sub (h : Has w H) (hs : H'.Sublist H) : Has w H' := ⟨fun e he => h.each e (hs.subset he), fun e he => h.loc e (hs.subset he), fun e he => h.lt e (hs.subset he), h.apart.sublist hs⟩
theorem St.turns (h : St w (inF H) w' H') : Turns w w' H H' := ⟨h.ext, h.has, fun e he b hb => (h.may e he b hb).1⟩
theorem Turns.refl (h : Has w H) : Turns w w H H := ⟨Ext.refl _ _, h, fun e he b hb => .inl ⟨e, he, hb⟩⟩
theorem Turns.of_no (h : Has w H) (hx : Ext No w w') : Turns w w' H H := ⟨hx.mono fun _ h => h.elim, h.read hx, fun e he b hb => .inl ⟨e, he, hb⟩⟩
theorem Turns.trans (h : Turns w w' H H') (k : Turns w' w'' H' H'') : Turns w w'' H H'' := by
 refine ⟨h.ext.then k.ext fun b hb => ?_, k.has, fun e he b hb => ?_⟩
 · obtain ⟨e, he, hb⟩ := hb
   exact h.foot e he b hb
 · rcases k.foot e he b hb with ⟨f, hf, hb⟩ | hb
   · exact h.foot f hf b hb
   · exact .inr (Nat.le_trans h.ext.size hb)

theorem inF_app {b : Nat} : inF (A ++ B) b ↔ inF A b ∨ inF B b := by
 constructor
 · rintro ⟨e, he, hb⟩
   rcases List.mem_append.1 he with he | he
   · exact .inl ⟨e, he, hb⟩
   · exact .inr ⟨e, he, hb⟩
 · rintro (⟨e, he, hb⟩ | ⟨e, he, hb⟩)
   · exact ⟨e, List.mem_append_left _ he, hb⟩
   · exact ⟨e, List.mem_append_right _ he, hb⟩

theorem St.call (h : St w0 S w (H ++ B)) (k : Turns w w' H H') : St w0 S w' (H' ++ B) := by
 have hap := List.pairwise_append.1 h.apart
 have hB : ∀ e ∈ B, ∀ b ∈ e.foot, ¬ inF H b := fun e he b hb ⟨f, hf, hb'⟩ => hap.2.2 f hf e he b hb' hb
 have hmB : ∀ e ∈ B, e ∈ H ++ B := fun e he => List.mem_append_right _ he
 refine ⟨h.ext.then k.ext fun b ⟨e, he, hb⟩ => (h.may e (List.mem_append_left _ he) b hb).1, ?_, ?_, ?_, ?_⟩
 · intro e he
   rcases List.mem_append.1 he with he | he
   · exact k.has.each e he
   · exact h.loc e (hmB e he) w w' (fun b hb => k.ext.block b (h.may e (hmB e he) b hb).2 (hB e he b hb)) (h.each e (hmB e he))
 · intro e he
   rcases List.mem_append.1 he with he | he
   · exact k.has.loc e he
   · exact h.loc e (hmB e he)
 · intro e he b hb
   rcases List.mem_append.1 he with he | he
   · refine ⟨?_, k.has.lt e he b hb⟩
     rcases k.foot e he b hb with ⟨f, hf, hb'⟩ | hb'
     · exact (h.may f (List.mem_append_left _ hf) b hb').1
     · exact .inr (Nat.le_trans h.ext.size hb')
   · exact ⟨(h.may e (hmB e he) b hb).1, Nat.lt_of_lt_of_le (h.may e (hmB e he) b hb).2 k.ext.size⟩
 · rw [List.pairwise_append]
   refine ⟨k.has.apart, hap.2.1, fun f hf e he b hb hb' => ?_⟩
   rcases k.foot f hf b hb with hb'' | hb''
   · exact hB e he b hb' hb''
   · have := (h.may e (hmB e he) b hb').2
     omega
theorem St.callAt (h : St w0 S w (A ++ (H ++ B))) (k : Turns w w' H H') : St w0 S w' (A ++ (H' ++ B)) := by
 have p1 : (A ++ (H ++ B)).Perm (H ++ (A ++ B)) := by
   rw [← List.append_assoc, ← List.append_assoc]
   exact List.Perm.append_right _ List.perm_append_comm
 have p2 : (H' ++ (A ++ B)).Perm (A ++ (H' ++ B)) := by
   rw [← List.append_assoc, ← List.append_assoc]
   exact List.Perm.append_right _ List.perm_append_comm
 have perm : ∀ {w : World} {X Y : List Ent}, X.Perm Y → St w0 S w X → St w0 S w Y := fun {w X Y} p h =>
   ⟨h.ext, fun e he => h.each e (p.mem_iff.2 he), fun e he => h.loc e (p.mem_iff.2 he), fun e he => h.may e (p.mem_iff.2 he), (p.pairwise_iff (fun {a b} h => apart_symm' a b h)).1 h.apart⟩
 exact perm p2 ((perm p1 h).call k)
theorem Has.left (h : Has w (A ++ B)) : Has w A := h.sub (List.sublist_append_left _ _)
theorem Has.right (h : Has w (A ++ B)) : Has w B := h.sub (List.sublist_append_right _ _)
def Fresh (w w' : World) (v : Value) : Prop := ∀ g, v.ownBlock = some g → w.heap.size ≤ g ∧ g < w'.heap.size
theorem St.freshAt {w0 w : World} {H : List Ent} (h : St w0 No w H) (i : Nat) {α : Type} {e : TypeId} {sz : Nat} {enc : α → List Value} {v : Value} {xs : List α} (hi : H[i]? = some (ownL e sz enc v xs)) : Fresh w0 w v := fun g hg => by
 rcases h.may _ (List.mem_of_getElem? hi) g (by simpa [ownL, own] using hg) with ⟨h1 | h1, h2⟩
 · exact h1.elim
 · exact ⟨h1, h2⟩
theorem St.madeL {w0 w w' : World} {S : Nat → Prop} {H : List Ent} (h : St w0 S w H) (hx : Ext No w w') {α : Type} {e : TypeId} {sz : Nat} {enc : α → List Value} {v : Value} {xs : List α} (ho : (ownL e sz enc v xs).holds w') (hf : Fresh w w' v) : St w0 S w' (H ++ [ownL e sz enc v xs]) :=
 h.made hx (own_local _ _ _ _ _) ho fun g hg => hf g (by simpa [ownL, own] using hg)
end
end Go.Proofs.YtogjajjdaoihdaaGreatDoor.Ev

namespace Go.Proofs.YtogjajjdaoihdaaGreatDoor.Ev
set_option maxRecDepth 20000
open Go Go.WideShapes

section
variable {P : Program} {α : Type} {sz : Nat} {enc : α → List Value} {w0 w w' : World} {S : Nat → Prop} {H : List Ent} {G : α → Prop} {a : Option Addr} {n c : Nat} {xs : List α}

theorem elem_of {t e : TypeId} (hu : P.underlying t = some (.slice e)) : P.elem t = e := by simp [Program.elem, hu]

theorem Slc.drop (h : Slc w sz enc G a n xs) (l : Nat) (hl : l ≤ n) (a' : Option Addr) (ha : l < n → a' = a.map (·.add (l * sz))) : Slc w sz enc G a' (n - l) (xs.drop l) := by
 refine ⟨by rw [List.length_drop, h.len], by have := h.max; omega, fun k x hx => ?_, fun x hx => h.good x (List.mem_of_mem_drop hx)⟩
 rw [List.getElem?_drop] at hx
 have lt := (List.getElem?_eq_some_iff.1 hx).1
 rw [h.len] at lt
 obtain ⟨b, o, rfl, hb, hc⟩ := h.cells _ _ hx
 refine ⟨b, o + l * sz, by rw [ha (by omega), Option.map_some, add_none], hb, ?_⟩
 have : o + l * sz + k * sz = o + (l + k) * sz := by rw [Nat.add_mul]; omega
 rw [this]
 exact hc
theorem Slc.take (h : Slc w sz enc G a n xs) (l : Nat) (hl : l ≤ n) (a' : Option Addr) (ha : 0 < n → a' = a) : Slc w sz enc G a' l (xs.take l) := by
 refine ⟨by rw [List.length_take, h.len]; omega, by have := h.max; omega, fun k x hx => ?_, fun x hx => h.good x (List.mem_of_mem_take hx)⟩
 have lt := (List.getElem?_eq_some_iff.1 hx).1
 rw [List.length_take] at lt
 rw [List.getElem?_take_of_lt (by omega)] at hx
 have lt2 := (List.getElem?_eq_some_iff.1 hx).1
 rw [h.len] at lt2
 obtain ⟨b, o, hab, hb, hc⟩ := h.cells _ _ hx
 exact ⟨b, o, by rw [ha (by omega), hab], hb, hc⟩
theorem slcHead {t e : TypeId} {q : IntKind} {i : Int} {j : Nat} {k : Value → Prop} (hx : Slc w sz enc G a n xs) (hnc : n ≤ c) (hu : P.underlying t = some (.slice e)) (he : (P.info? e).isSome = true) (hi : i = (j : Int)) (hj : j ≤ n)
   (hk : ∀ a' c', Slc w sz enc G a' j (xs.take j) → k (.slice a' j c')) : PureC P (Instr.sliceAt t (.slice a n c) none (some (.int q i)) none) k := by
 subst hi
 have ht : P.underlying t = some (.slice (P.elem t)) := by rw [elem_of hu]; exact hu
 refine ⟨.slice (if c = 0 then a else a.map (·.add 0)) j c, fun w => ?_, hk _ _ (hx.take j hj _ fun h0 => ?_)⟩
 · rw [run_sliceAt_slice w t _ _ _ _ ht, run_slice_h w t a n c ht q _ (by omega) (by omega), elem_of hu, cellsOf_run he]
   simp [sliced]
 · obtain ⟨x, hx0⟩ : ∃ x, xs[0]? = some x := ⟨_, List.getElem?_eq_getElem (by rw [hx.len]; exact h0)⟩
   obtain ⟨b, o, rfl, _⟩ := hx.cells 0 x hx0
   split <;> rfl
theorem slcTail {t e : TypeId} {q : IntKind} {i : Int} {j : Nat} {k : Value → Prop} (hx : Slc w sz enc G a n xs) (hnc : n ≤ c) (hu : P.underlying t = some (.slice e)) (he : (P.info? e).isSome = true) (hsz : P.cellsOf e = sz) (hi : i = (j : Int)) (hj : j ≤ n)
   (hk : ∀ a' c', Slc w sz enc G a' (n - j) (xs.drop j) → n - j ≤ c' → k (.slice a' (n - j) c')) : PureC P (Instr.sliceAt t (.slice a n c) (some (.int q i)) none none) k := by
 subst hi
 have ht : P.underlying t = some (.slice (P.elem t)) := by rw [elem_of hu]; exact hu
 refine ⟨.slice (if c = j then a else a.map (·.add (j * sz))) (n - j) (c - j), fun w => ?_, hk _ _ (hx.drop j hj _ fun h0 => if_neg (by omega)) (by omega)⟩
 rw [run_sliceAt_slice w t _ _ _ _ ht, run_slice_l w t a n c ht q _ (by omega) (by omega), elem_of hu, cellsOf_run he, hsz]
 simp [sliced]

end

theorem ownB_lt {α : Type} {w : World} {sz n : Nat} {e : TypeId} {v : Value} {enc : α → List Value} {xs : List α} (h : (ownL e sz enc v xs).holds w) (hg : v.ownBlock = some n) : n < w.heap.size := by
 obtain ⟨_, ⟨h1, _⟩ | ⟨g', cap, cur, h1, _, h2, _⟩⟩ := h
 · rw [h1] at hg; simp [Value.ownBlock] at hg
 · rw [h1] at hg
   simp only [Value.ownBlock, Option.some.injEq] at hg
   subst hg
   exact (Array.getElem?_eq_some_iff.1 h2).1
theorem St.appX {P : Program} {α : Type} {sz : Nat} {enc : α → List Value} {w0 w : World} {S : Nat → Prop} {H : List Ent} (h : St w0 S w H) (C : Codec sz enc) (i : Nat) {t e : TypeId} {bytes : Nat} {z v : Value} {a : Option Addr} {m c : Nat} {G : α → Prop} {xs ys : List α} {k : Value → World → Prop}
   (hu : P.underlying t = some (.slice e)) (hs : (P.info? e).map (fun i => (i.size, i.bytes)) = some (sz, bytes)) (hz : (P.info? e).bind (·.zero) = some z) (hzs : Nat.beq z.cells.size sz = true)
   (hi : H[i]? = some (ownL e sz enc v xs)) (hy : Slc w sz enc G a m ys) (h63 : xs.length + m ≤ maxLen) (hbytes : (xs.length + m) * bytes ≤ 140737488355328)
   (hk : ∀ a' c' w', Ext (fun q => v.ownBlock = some q) w w' → St w0 S w' (H.set i (ownL e sz enc (.slice a' (xs.length + m) c') (xs ++ ys))) → k (.slice a' (xs.length + m) c') w') :
   RunC P (Builtin.append_ #[t, t] 0 #[v, .slice a m c]) w k := by
 have ho := h.get i hi
 have hs1 : St w (fun q => v.ownBlock = some q) w [ownL e sz enc v xs] := (St.start w _).add ownL_local ho (fun q hq => by
   have hq : v.ownBlock = some q := by simpa [ownL, own] using hq
   exact ⟨.inl hq, ownB_lt ho hq⟩) (by simp)
 refine hs1.appS C 0 hu hs hz hzs rfl hy h63 hbytes (fun a' c' w' hS' => ?_)
 refine hk a' c' w' hS'.ext (h.upd i hi hS'.ext (fun q hq => by simp [ownL, own, hq]) ownL_local (hS'.get 0 rfl) fun q hq => ?_)
 have hm := hS'.may _ (List.mem_of_getElem? (i := 0) rfl) q (by simpa using hq)
 rcases hm with ⟨h1 | h1, h2⟩
 · exact .inl (by simp [ownL, own, h1])
 · exact .inr ⟨h1, h2⟩
theorem St.litX {P : Program} {w0 w : World} {S : Nat → Prop} {H : List Ent} (h : St w0 S w H) {t e : TypeId} {len sz : Nat} {z : Value} {parts : Array (Nat × Value)} {cs : List Value} {k : Value → World → Prop}
   (hu : P.underlying t = some (.slice e)) (hs : (P.info? e).map (·.size) = some sz) (hz : (P.info? e).bind (·.zero) = some z) (hsmall : Nat.ble (len * sz) (2 ^ 24) = true) (hpos : Nat.beq (len * sz) 0 = false)
   (hf : fillK sz (zerosL z (len * sz)) parts.toList = some cs)
   (hk : ∀ b w', w.heap.size ≤ b → Ext No w w' → St w0 S w' (H ++ [Ev.blk b e cs]) → k (.slice (some ⟨b, 0, none⟩) len len) w') : RunC P (Instr.buildSlice t len parts) w k := by
 refine (St.start w No).lit hu hs hz hsmall hpos hf (fun b w' hb hS => ?_)
 refine hk b w' hb hS.ext (h.made hS.ext (blk_local _ _ _) (hS.get 0 rfl) fun q hq => ?_)
 obtain rfl : q = b := by simpa [Ev.blk] using hq
 exact ⟨hb, (hS.blk 0 rfl).lt⟩
end Go.Proofs.YtogjajjdaoihdaaGreatDoor.Ev

namespace Go.Proofs.YtogjajjdaoihdaaGreatDoor
open Go Ev
def tab : Tab := [
 (1, ⟨1, .other, [.nilFunc]⟩),
 (2, ⟨1, .int, [.int .i64 0]⟩),
 (3, ⟨1, .int, [.int .i64 0]⟩),
 (4, ⟨1, .bool, [.bool false]⟩),
 (5, ⟨1, .other, [.int .u8 0]⟩),
 (9, ⟨1, .str, [.string ByteArray.empty]⟩),
 (12, ⟨1, .other, [.int .u64 0]⟩),
 (13, ⟨2, .struct [(0, 1, false), (1, 1, false)], [.string ByteArray.empty, .int .u64 0]⟩),
 (20, ⟨1, .iface, [.nilIface]⟩),
 (21, ⟨1, .other, [.int .i32 0]⟩),
 (22, ⟨1, .slice 9 1 false, [.slice none 0 0]⟩),
 (23, ⟨1, .other, [.nilFunc]⟩),
 (24, ⟨1, .iface, [.nilIface]⟩),
 (25, ⟨1, .iface, [.nilIface]⟩),
 (27, ⟨1, .other, [.nilFunc]⟩),
 (28, ⟨1, .slice 98 5 true, [.slice none 0 0]⟩),
 (29, ⟨2, .struct [(0, 1, false), (1, 1, false)], [.int .i64 0, .int .i64 0]⟩),
 (30, ⟨2, .struct [(0, 1, false), (1, 1, false)], [.int .i64 0, .int .i64 0]⟩),
 (32, ⟨1, .other, [.nilFunc]⟩),
 (33, ⟨1, .other, [.nilFunc]⟩),
 (34, ⟨1, .other, [.nilFunc]⟩),
 (36, ⟨1, .other, [.nilFunc]⟩),
 (37, ⟨1, .other, [.nilFunc]⟩),
 (38, ⟨2, .struct [(0, 1, false), (1, 1, false)], [.int .i64 0, .int .i64 0]⟩),
 (39, ⟨2, .struct [(0, 1, false), (1, 1, false)], [.int .i64 0, .int .i64 0]⟩),
 (40, ⟨6, .struct [(0, 1, false), (1, 2, true), (3, 2, true), (5, 1, false)], [.int .i64 0, .int .i64 0, .int .i64 0, .int .i64 0, .int .i64 0, .int .i64 0]⟩),
 (41, ⟨6, .struct [(0, 1, false), (1, 2, true), (3, 2, true), (5, 1, false)], [.int .i64 0, .int .i64 0, .int .i64 0, .int .i64 0, .int .i64 0, .int .i64 0]⟩),
 (43, ⟨1, .other, [.nilFunc]⟩),
 (44, ⟨1, .other, [.nilFunc]⟩),
 (45, ⟨1, .slice 49 8 true, [.slice none 0 0]⟩),
 (46, ⟨1, .other, [.nilFunc]⟩),
 (47, ⟨1, .slice 3 1 false, [.slice none 0 0]⟩),
 (48, ⟨8, .struct [(0, 1, false), (1, 1, false), (2, 6, true)], [.string ByteArray.empty, .slice none 0 0, .int .i64 0, .int .i64 0, .int .i64 0, .int .i64 0, .int .i64 0, .int .i64 0]⟩),
 (49, ⟨8, .struct [(0, 1, false), (1, 1, false), (2, 6, true)], [.string ByteArray.empty, .slice none 0 0, .int .i64 0, .int .i64 0, .int .i64 0, .int .i64 0, .int .i64 0, .int .i64 0]⟩),
 (50, ⟨1, .other, [.nilFunc]⟩),
 (51, ⟨1, .other, [.nilFunc]⟩),
 (52, ⟨1, .other, [.nilFunc]⟩),
 (53, ⟨1, .other, [.nilFunc]⟩),
 (54, ⟨1, .ptr, [.pointer none]⟩),
 (55, ⟨1, .other, [.nilFunc]⟩),
 (56, ⟨1, .other, [.nilFunc]⟩),
 (57, ⟨1, .other, [.nilFunc]⟩),
 (58, ⟨1, .slice 28 1 false, [.slice none 0 0]⟩),
 (60, ⟨1, .other, [.nilFunc]⟩),
 (61, ⟨1, .other, [.nilFunc]⟩),
 (63, ⟨1, .other, [.nilFunc]⟩),
 (64, ⟨1, .other, [.nilFunc]⟩),
 (65, ⟨1, .other, [.nilFunc]⟩),
 (66, ⟨1, .slice 47 1 false, [.slice none 0 0]⟩),
 (67, ⟨1, .slice 75 2 true, [.slice none 0 0]⟩),
 (69, ⟨1, .other, [.nilFunc]⟩),
 (70, ⟨1, .other, [.nilFunc]⟩),
 (71, ⟨1, .other, [.nilFunc]⟩),
 (72, ⟨1, .other, [.nilFunc]⟩),
 (73, ⟨1, .slice 157 2 true, [.slice none 0 0]⟩),
 (74, ⟨2, .struct [(0, 1, false), (1, 1, false)], [.slice none 0 0, .slice none 0 0]⟩),
 (75, ⟨2, .struct [(0, 1, false), (1, 1, false)], [.slice none 0 0, .slice none 0 0]⟩),
 (76, ⟨1, .other, [.nilFunc]⟩),
 (77, ⟨1, .slice 156 2 true, [.slice none 0 0]⟩),
 (78, ⟨1, .other, [.nilFunc]⟩),
 (79, ⟨1, .slice 111 1 false, [.slice none 0 0]⟩),
 (80, ⟨1, .slice 109 1 false, [.slice none 0 0]⟩),
 (81, ⟨1, .slice 200 5 true, [.slice none 0 0]⟩),
 (82, ⟨7, .struct [(0, 1, false), (1, 1, false), (2, 1, false), (3, 1, false), (4, 1, false), (5, 1, false), (6, 1, false)], [.slice none 0 0, .slice none 0 0, .slice none 0 0, .slice none 0 0, .int .i64 0, .int .i64 0, .slice none 0 0]⟩),
 (83, ⟨7, .struct [(0, 1, false), (1, 1, false), (2, 1, false), (3, 1, false), (4, 1, false), (5, 1, false), (6, 1, false)], [.slice none 0 0, .slice none 0 0, .slice none 0 0, .slice none 0 0, .int .i64 0, .int .i64 0, .slice none 0 0]⟩),
 (84, ⟨1, .other, [.nilFunc]⟩),
 (85, ⟨1, .ptr, [.pointer none]⟩),
 (87, ⟨1, .other, [.nilFunc]⟩),
 (88, ⟨1, .ptr, [.pointer none]⟩),
 (89, ⟨1, .struct [(0, 1, false)], [.pointer none]⟩),
 (90, ⟨1, .struct [(0, 1, false)], [.pointer none]⟩),
 (92, ⟨1, .other, [.nilFunc]⟩),
 (93, ⟨1, .other, [.nilFunc]⟩),
 (94, ⟨1, .other, [.nilFunc]⟩),
 (95, ⟨1, .other, [.nilFunc]⟩),
 (96, ⟨1, .other, [.nilFunc]⟩),
 (97, ⟨5, .struct [(0, 1, false), (1, 1, false), (2, 1, false), (3, 1, false), (4, 1, false)], [.bool false, .bool false, .int .i64 0, .int .i64 0, .int .i64 0]⟩),
 (98, ⟨5, .struct [(0, 1, false), (1, 1, false), (2, 1, false), (3, 1, false), (4, 1, false)], [.bool false, .bool false, .int .i64 0, .int .i64 0, .int .i64 0]⟩),
 (100, ⟨1, .other, [.nilFunc]⟩),
 (102, ⟨1, .other, [.nilFunc]⟩),
 (103, ⟨1, .other, [.nilFunc]⟩),
 (105, ⟨1, .other, [.nilFunc]⟩),
 (106, ⟨1, .other, [.nilFunc]⟩),
 (107, ⟨1, .other, [.nilFunc]⟩),
 (108, ⟨1, .other, [.nilFunc]⟩),
 (109, ⟨1, .ptr, [.pointer none]⟩),
 (110, ⟨1, .other, [.nilFunc]⟩),
 (111, ⟨1, .ptr, [.pointer none]⟩),
 (113, ⟨1, .other, [.nilFunc]⟩),
 (114, ⟨1, .other, [.nilFunc]⟩),
 (115, ⟨1, .other, [.nilFunc]⟩),
 (116, ⟨1, .other, [.nilFunc]⟩),
 (118, ⟨1, .other, [.nilFunc]⟩),
 (119, ⟨1, .other, [.nilFunc]⟩),
 (120, ⟨4, .struct [(0, 1, false), (1, 1, false), (2, 1, false), (3, 1, false)], [.int .i64 0, .int .i64 0, .int .i64 0, .bool false]⟩),
 (121, ⟨4, .struct [(0, 1, false), (1, 1, false), (2, 1, false), (3, 1, false)], [.int .i64 0, .int .i64 0, .int .i64 0, .bool false]⟩),
 (122, ⟨1, .ptr, [.pointer none]⟩),
 (123, ⟨1, .ptr, [.pointer none]⟩),
 (124, ⟨1, .ptr, [.pointer none]⟩),
 (125, ⟨1, .ptr, [.pointer none]⟩),
 (126, ⟨1, .ptr, [.pointer none]⟩),
 (127, ⟨8, .struct [(0, 1, false), (1, 1, false), (2, 1, false), (3, 1, false), (4, 1, false), (5, 1, false), (6, 1, false), (7, 1, false)], [.int .i64 0, .int .i64 0, .pointer none, .pointer none, .pointer none, .pointer none, .pointer none, .slice none 0 0]⟩),
 (128, ⟨8, .struct [(0, 1, false), (1, 1, false), (2, 1, false), (3, 1, false), (4, 1, false), (5, 1, false), (6, 1, false), (7, 1, false)], [.int .i64 0, .int .i64 0, .pointer none, .pointer none, .pointer none, .pointer none, .pointer none, .slice none 0 0]⟩),
 (129, ⟨1, .slice 207 8 true, [.slice none 0 0]⟩),
 (130, ⟨1, .other, [.nilFunc]⟩),
 (131, ⟨1, .slice 209 10 true, [.slice none 0 0]⟩),
 (132, ⟨2, .struct [(0, 1, false), (1, 1, false)], [.int .i64 0, .slice none 0 0]⟩),
 (133, ⟨2, .struct [(0, 1, false), (1, 1, false)], [.int .i64 0, .slice none 0 0]⟩),
 (134, ⟨2, .struct [(0, 1, false), (1, 1, false)], [.int .i64 0, .slice none 0 0]⟩),
 (135, ⟨2, .struct [(0, 1, false), (1, 1, false)], [.int .i64 0, .slice none 0 0]⟩),
 (136, ⟨5, .struct [(0, 1, false), (1, 1, false), (2, 1, false), (3, 1, false), (4, 1, false)], [.pointer none, .int .i64 0, .int .i64 0, .int .i64 0, .bool false]⟩),
 (137, ⟨5, .struct [(0, 1, false), (1, 1, false), (2, 1, false), (3, 1, false), (4, 1, false)], [.pointer none, .int .i64 0, .int .i64 0, .int .i64 0, .bool false]⟩),
 (138, ⟨1, .other, [.nilFunc]⟩),
 (139, ⟨1, .slice 25 1 false, [.slice none 0 0]⟩),
 (141, ⟨1, .other, [.nilFunc]⟩),
 (142, ⟨1, .other, [.nilFunc]⟩),
 (143, ⟨1, .ptr, [.pointer none]⟩),
 (144, ⟨1, .other, [.nilFunc]⟩),
 (145, ⟨1, .ptr, [.pointer none]⟩),
 (146, ⟨2, .struct [(0, 1, false), (1, 1, false)], [.int .i64 0, .nilIface]⟩),
 (147, ⟨2, .struct [(0, 1, false), (1, 1, false)], [.int .i64 0, .nilIface]⟩),
 (148, ⟨1, .other, [.nilFunc]⟩),
 (149, ⟨1, .other, [.nilFunc]⟩),
 (151, ⟨1, .other, [.nilFunc]⟩),
 (152, ⟨1, .other, [.nilFunc]⟩),
 (153, ⟨1, .other, [.nilFunc]⟩),
 (154, ⟨1, .other, [.nilFunc]⟩),
 (155, ⟨2, .struct [(0, 1, false), (1, 1, false)], [.int .i64 0, .int .i64 0]⟩),
 (156, ⟨2, .struct [(0, 1, false), (1, 1, false)], [.int .i64 0, .int .i64 0]⟩),
 (157, ⟨2, .struct [(0, 1, false), (1, 1, false)], [.int .i64 0, .int .i64 0]⟩),
 (158, ⟨1, .ptr, [.pointer none]⟩),
 (159, ⟨2, .arr 2 158 1 false, [.pointer none, .pointer none]⟩),
 (160, ⟨1, .slice 350 5 true, [.slice none 0 0]⟩),
 (161, ⟨7, .struct [(0, 2, true), (2, 1, false), (3, 1, false), (4, 1, false), (5, 1, false), (6, 1, false)], [.pointer none, .pointer none, .slice none 0 0, .slice none 0 0, .int .i64 0, .int .i64 0, .slice none 0 0]⟩),
 (162, ⟨7, .struct [(0, 2, true), (2, 1, false), (3, 1, false), (4, 1, false), (5, 1, false), (6, 1, false)], [.pointer none, .pointer none, .slice none 0 0, .slice none 0 0, .int .i64 0, .int .i64 0, .slice none 0 0]⟩),
 (163, ⟨1, .ptr, [.pointer none]⟩),
 (164, ⟨1, .other, [.nilFunc]⟩),
 (165, ⟨1, .ptr, [.pointer none]⟩),
 (167, ⟨1, .other, [.nilFunc]⟩),
 (168, ⟨2, .struct [(0, 1, false), (1, 1, false)], [.pointer none, .pointer none]⟩),
 (169, ⟨2, .struct [(0, 1, false), (1, 1, false)], [.pointer none, .pointer none]⟩),
 (171, ⟨1, .other, [.nilFunc]⟩),
 (172, ⟨1, .other, [.nilFunc]⟩),
 (173, ⟨1, .other, [.nilFunc]⟩),
 (174, ⟨1, .other, [.nilFunc]⟩),
 (175, ⟨2, .struct [(0, 1, false), (1, 1, false)], [.string ByteArray.empty, .nilFunc]⟩),
 (176, ⟨2, .struct [(0, 1, false), (1, 1, false)], [.string ByteArray.empty, .nilFunc]⟩),
 (178, ⟨1, .other, [.map none]⟩),
 (179, ⟨1, .other, [.nilFunc]⟩),
 (181, ⟨1, .other, [.nilFunc]⟩),
 (182, ⟨1, .other, [.nilFunc]⟩),
 (183, ⟨1, .other, [.nilFunc]⟩),
 (184, ⟨1, .other, [.nilFunc]⟩),
 (186, ⟨1, .other, [.nilFunc]⟩),
 (187, ⟨1, .other, [.nilFunc]⟩),
 (188, ⟨4, .arr 4 9 1 false, [.string ByteArray.empty, .string ByteArray.empty, .string ByteArray.empty, .string ByteArray.empty]⟩),
 (189, ⟨1, .other, [.nilFunc]⟩),
 (190, ⟨1, .other, [.nilFunc]⟩),
 (191, ⟨1, .other, [.nilFunc]⟩),
 (192, ⟨1, .slice 5 1 false, [.slice none 0 0]⟩),
 (193, ⟨4, .struct [(0, 1, false), (1, 1, false), (2, 1, false), (3, 1, false)], [.string ByteArray.empty, .bool false, .int .i64 0, .bool false]⟩),
 (194, ⟨4, .struct [(0, 1, false), (1, 1, false), (2, 1, false), (3, 1, false)], [.string ByteArray.empty, .bool false, .int .i64 0, .bool false]⟩),
 (195, ⟨1, .other, [.nilFunc]⟩),
 (196, ⟨1, .other, [.nilFunc]⟩),
 (197, ⟨1, .other, [.nilFunc]⟩),
 (198, ⟨1, .other, [.nilFunc]⟩),
 (199, ⟨5, .struct [(0, 1, false), (1, 1, false), (2, 1, false), (3, 1, false), (4, 1, false)], [.int .i64 0, .int .i64 0, .int .i64 0, .bool false, .slice none 0 0]⟩),
 (200, ⟨5, .struct [(0, 1, false), (1, 1, false), (2, 1, false), (3, 1, false), (4, 1, false)], [.int .i64 0, .int .i64 0, .int .i64 0, .bool false, .slice none 0 0]⟩),
 (202, ⟨1, .other, [.nilFunc]⟩),
 (203, ⟨1, .other, [.nilFunc]⟩),
 (204, ⟨1, .other, [.nilFunc]⟩),
 (205, ⟨1, .other, [.nilFunc]⟩),
 (206, ⟨8, .struct [(0, 1, false), (1, 2, true), (3, 2, true), (5, 1, false), (6, 1, false), (7, 1, false)], [.int .i64 0, .int .i64 0, .int .i64 0, .int .i64 0, .int .i64 0, .int .i64 0, .int .i64 0, .int .i64 0]⟩),
 (207, ⟨8, .struct [(0, 1, false), (1, 2, true), (3, 2, true), (5, 1, false), (6, 1, false), (7, 1, false)], [.int .i64 0, .int .i64 0, .int .i64 0, .int .i64 0, .int .i64 0, .int .i64 0, .int .i64 0, .int .i64 0]⟩),
 (208, ⟨10, .struct [(0, 1, false), (1, 1, false), (2, 8, true)], [.int .i64 0, .int .i64 0, .int .i64 0, .int .i64 0, .int .i64 0, .int .i64 0, .int .i64 0, .int .i64 0, .int .i64 0, .int .i64 0]⟩),
 (209, ⟨10, .struct [(0, 1, false), (1, 1, false), (2, 8, true)], [.int .i64 0, .int .i64 0, .int .i64 0, .int .i64 0, .int .i64 0, .int .i64 0, .int .i64 0, .int .i64 0, .int .i64 0, .int .i64 0]⟩),
 (216, ⟨1, .other, [.int .u64 0]⟩),
 (219, ⟨1, .other, [.int .u32 0]⟩),
 (222, ⟨1, .other, [.nilFunc]⟩),
 (223, ⟨3, .struct [(0, 1, false), (1, 1, false), (2, 1, false)], [.int .i64 0, .slice none 0 0, .nilIface]⟩),
 (224, ⟨3, .struct [(0, 1, false), (1, 1, false), (2, 1, false)], [.int .i64 0, .slice none 0 0, .nilIface]⟩),
 (228, ⟨3, .struct [(0, 1, false), (1, 1, false), (2, 1, false)], [.pointer none, .pointer none, .int .u64 0]⟩),
 (231, ⟨1, .iface, [.nilIface]⟩),
 (233, ⟨1, .other, [.int .u8 0]⟩),
 (237, ⟨1, .other, [.nilFunc]⟩),
 (238, ⟨3, .arr 3 9 1 false, [.string ByteArray.empty, .string ByteArray.empty, .string ByteArray.empty]⟩),
 (240, ⟨1, .other, [.nilFunc]⟩),
 (241, ⟨1, .other, [.nilFunc]⟩),
 (242, ⟨1, .other, [.nilFunc]⟩),
 (243, ⟨1, .other, [.nilFunc]⟩),
 (246, ⟨4, .struct [(0, 1, false), (1, 2, true), (3, 1, false)], [.int .i64 0, .slice none 0 0, .slice none 0 0, .nilIface]⟩),
 (247, ⟨4, .struct [(0, 1, false), (1, 2, true), (3, 1, false)], [.int .i64 0, .slice none 0 0, .slice none 0 0, .nilIface]⟩),
 (248, ⟨1, .other, [.nilFunc]⟩),
 (249, ⟨1, .other, [.nilFunc]⟩),
 (250, ⟨1, .other, [.nilFunc]⟩),
 (251, ⟨64, .arr 64 5 1 false, []⟩),
 (252, ⟨66, .struct [(0, 64, true), (64, 1, false), (65, 1, false)], []⟩),
 (253, ⟨66, .struct [(0, 64, true), (64, 1, false), (65, 1, false)], []⟩),
 (254, ⟨1, .ptr, [.pointer none]⟩),
 (256, ⟨1, .other, [.nilFunc]⟩),
 (257, ⟨1, .ptr, [.pointer none]⟩),
 (259, ⟨1, .other, [.nilFunc]⟩),
 (260, ⟨1, .ptr, [.pointer none]⟩),
 (262, ⟨1, .other, [.nilFunc]⟩),
 (263, ⟨1, .ptr, [.pointer none]⟩),
 (264, ⟨1, .other, [.nilFunc]⟩),
 (265, ⟨1, .ptr, [.pointer none]⟩),
 (266, ⟨1, .other, [.nilFunc]⟩),
 (267, ⟨8, .struct [(0, 1, false), (1, 1, false), (2, 1, false), (3, 1, false), (4, 1, false), (5, 1, false), (6, 1, false), (7, 1, false)], [.pointer none, .int .i64 0, .int .i64 0, .pointer none, .pointer none, .pointer none, .pointer none, .slice none 0 0]⟩),
 (268, ⟨8, .struct [(0, 1, false), (1, 1, false), (2, 1, false), (3, 1, false), (4, 1, false), (5, 1, false), (6, 1, false), (7, 1, false)], [.pointer none, .int .i64 0, .int .i64 0, .pointer none, .pointer none, .pointer none, .pointer none, .slice none 0 0]⟩),
 (270, ⟨1, .other, [.nilFunc]⟩),
 (271, ⟨1, .other, [.nilFunc]⟩),
 (272, ⟨1, .other, [.nilFunc]⟩),
 (273, ⟨1, .other, [.nilFunc]⟩),
 (274, ⟨1, .other, [.nilFunc]⟩),
 (275, ⟨1, .other, [.nilFunc]⟩),
 (276, ⟨1, .other, [.nilFunc]⟩),
 (277, ⟨1, .other, [.nilFunc]⟩),
 (278, ⟨1, .other, [.nilFunc]⟩),
 (279, ⟨1, .other, [.nilFunc]⟩),
 (280, ⟨1, .other, [.nilFunc]⟩),
 (282, ⟨1, .other, [.nilFunc]⟩),
 (283, ⟨1, .other, [.nilFunc]⟩),
 (284, ⟨1, .other, [.nilFunc]⟩),
 (285, ⟨1, .other, [.nilFunc]⟩),
 (286, ⟨1, .ptr, [.pointer none]⟩),
 (287, ⟨2, .struct [(0, 1, false), (1, 1, false)], [.pointer none, .slice none 0 0]⟩),
 (288, ⟨2, .struct [(0, 1, false), (1, 1, false)], [.pointer none, .slice none 0 0]⟩),
 (289, ⟨1, .other, [.nilFunc]⟩),
 (290, ⟨1, .other, [.nilFunc]⟩),
 (291, ⟨1, .other, [.nilFunc]⟩),
 (292, ⟨1, .other, [.nilFunc]⟩),
 (293, ⟨3, .struct [(0, 1, false), (1, 1, false), (2, 1, false)], [.pointer none, .slice none 0 0, .int .i64 0]⟩),
 (294, ⟨3, .struct [(0, 1, false), (1, 1, false), (2, 1, false)], [.pointer none, .slice none 0 0, .int .i64 0]⟩),
 (296, ⟨1, .other, [.nilFunc]⟩),
 (297, ⟨1, .other, [.nilFunc]⟩),
 (298, ⟨1, .other, [.nilFunc]⟩),
 (299, ⟨1, .other, [.nilFunc]⟩),
 (300, ⟨1, .other, [.nilFunc]⟩),
 (301, ⟨1, .other, [.nilFunc]⟩),
 (302, ⟨1, .other, [.nilFunc]⟩),
 (303, ⟨1, .other, [.nilFunc]⟩),
 (304, ⟨1, .other, [.nilFunc]⟩),
 (305, ⟨1, .ptr, [.pointer none]⟩),
 (306, ⟨1, .other, [.nilFunc]⟩),
 (307, ⟨1, .other, [.int .u64 0]⟩),
 (308, ⟨1, .other, [.nilFunc]⟩),
 (309, ⟨1, .other, [.nilFunc]⟩),
 (310, ⟨1, .other, [.nilFunc]⟩),
 (311, ⟨1, .other, [.nilFunc]⟩),
 (312, ⟨1, .ptr, [.pointer none]⟩),
 (313, ⟨1, .other, [.nilFunc]⟩),
 (319, ⟨1, .iface, [.nilIface]⟩),
 (321, ⟨1, .other, [.nilFunc]⟩),
 (322, ⟨1, .iface, [.nilIface]⟩),
 (323, ⟨1, .other, [.nilFunc]⟩),
 (324, ⟨1, .iface, [.nilIface]⟩),
 (325, ⟨1, .other, [.nilFunc]⟩),
 (326, ⟨1, .other, [.nilFunc]⟩),
 (327, ⟨1, .other, [.nilFunc]⟩),
 (328, ⟨320, .arr 32 209 10 true, []⟩),
 (329, ⟨321, .struct [(0, 1, false), (1, 320, true)], []⟩),
 (330, ⟨321, .struct [(0, 1, false), (1, 320, true)], []⟩),
 (331, ⟨5, .struct [(0, 1, false), (1, 1, false), (2, 1, false), (3, 1, false), (4, 1, false)], [.pointer none, .int .i64 0, .int .i64 0, .int .i64 0, .bool false]⟩),
 (332, ⟨5, .struct [(0, 1, false), (1, 1, false), (2, 1, false), (3, 1, false), (4, 1, false)], [.pointer none, .int .i64 0, .int .i64 0, .int .i64 0, .bool false]⟩),
 (333, ⟨1, .other, [.nilFunc]⟩),
 (334, ⟨4, .struct [(0, 1, false), (1, 1, false), (2, 1, false), (3, 1, false)], [.int .i64 0, .int .i64 0, .int .i64 0, .bool false]⟩),
 (335, ⟨4, .struct [(0, 1, false), (1, 1, false), (2, 1, false), (3, 1, false)], [.int .i64 0, .int .i64 0, .int .i64 0, .bool false]⟩),
 (336, ⟨32, .arr 32 3 1 false, []⟩),
 (337, ⟨34, .struct [(0, 1, false), (1, 32, true), (33, 1, false)], []⟩),
 (338, ⟨34, .struct [(0, 1, false), (1, 32, true), (33, 1, false)], []⟩),
 (339, ⟨321, .struct [(0, 1, false), (1, 320, true)], []⟩),
 (340, ⟨321, .struct [(0, 1, false), (1, 320, true)], []⟩),
 (341, ⟨1, .other, [.nilFunc]⟩),
 (342, ⟨1, .other, [.nilFunc]⟩),
 (344, ⟨1, .other, [.nilFunc]⟩),
 (345, ⟨1, .other, [.nilFunc]⟩),
 (347, ⟨1, .other, [.nilFunc]⟩),
 (348, ⟨1, .other, [.nilFunc]⟩),
 (349, ⟨1, .other, [.nilFunc]⟩),
 (350, ⟨5, .struct [(0, 1, false), (1, 1, false), (2, 1, false), (3, 1, false), (4, 1, false)], [.int .i64 0, .int .i64 0, .int .i64 0, .bool false, .slice none 0 0]⟩),
 (351, ⟨1, .other, [.nilFunc]⟩),
 (352, ⟨1, .other, [.nilFunc]⟩),
 (353, ⟨1, .other, [.nilFunc]⟩),
 (354, ⟨1, .other, [.nilFunc]⟩),
 (355, ⟨1, .iface, [.nilIface]⟩),
 (357, ⟨1, .other, [.nilFunc]⟩),
 (359, ⟨1, .other, [.nilFunc]⟩),
 (360, ⟨1, .other, [.nilFunc]⟩),
 (361, ⟨1, .int, [.int .i64 0]⟩),
 (363, ⟨1, .other, [.nilFunc]⟩),
 (364, ⟨1, .ptr, [.pointer none]⟩),
 (365, ⟨1, .other, [.nilFunc]⟩),
 (366, ⟨1, .other, [.nilFunc]⟩),
 (367, ⟨1, .ptr, [.pointer none]⟩),
 (368, ⟨1, .other, [.nilFunc]⟩),
 (369, ⟨1, .other, [.nilFunc]⟩),
 (370, ⟨1, .other, [.nilFunc]⟩),
 (371, ⟨1, .other, [.nilFunc]⟩),
 (372, ⟨1, .other, [.nilFunc]⟩),
 (373, ⟨1, .int, [.int .i64 0]⟩),
 (374, ⟨1, .other, [.nilFunc]⟩),
 (375, ⟨1, .other, [.nilFunc]⟩),
 (376, ⟨1, .other, [.nilFunc]⟩),
 (377, ⟨1, .other, [.nilFunc]⟩),
 (378, ⟨1, .other, [.nilFunc]⟩),
 (379, ⟨1, .ptr, [.pointer none]⟩),
 (380, ⟨1, .other, [.nilFunc]⟩),
 (381, ⟨1, .ptr, [.pointer none]⟩),
 (382, ⟨1, .other, [.nilFunc]⟩),
 (384, ⟨1, .other, [.nilFunc]⟩),
 (385, ⟨1, .other, [.nilFunc]⟩),
 (386, ⟨4, .arr 4 3 1 false, [.int .i64 0, .int .i64 0, .int .i64 0, .int .i64 0]⟩),
 (387, ⟨1, .other, [.nilFunc]⟩),
 (388, ⟨1, .other, [.nilFunc]⟩),
 (389, ⟨1, .other, [.nilFunc]⟩),
 (390, ⟨1, .other, [.nilFunc]⟩),
 (392, ⟨1, .other, [.nilFunc]⟩),
 (393, ⟨1, .other, [.nilFunc]⟩),
 (394, ⟨1, .other, [.nilFunc]⟩),
 (395, ⟨1, .ptr, [.pointer none]⟩),
 (397, ⟨1, .other, [.nilFunc]⟩),
 (398, ⟨1, .other, [.nilFunc]⟩),
 (399, ⟨1, .other, [.nilFunc]⟩),
 (400, ⟨1, .other, [.nilFunc]⟩),
 (401, ⟨1, .other, [.nilFunc]⟩),
 (402, ⟨1, .other, [.nilFunc]⟩),
 (404, ⟨1, .other, [.nilFunc]⟩),
 (405, ⟨1, .other, [.nilFunc]⟩),
 (406, ⟨3, .struct [(0, 1, false), (1, 1, false), (2, 1, false)], [.string ByteArray.empty, .string ByteArray.empty, .nilIface]⟩),
 (407, ⟨3, .struct [(0, 1, false), (1, 1, false), (2, 1, false)], [.string ByteArray.empty, .string ByteArray.empty, .nilIface]⟩),
 (408, ⟨1, .other, [.nilFunc]⟩),
 (409, ⟨1, .other, [.nilFunc]⟩),
 (410, ⟨1, .other, [.nilFunc]⟩),
 (411, ⟨1, .slice 4 1 false, [.slice none 0 0]⟩),
 (412, ⟨1, .other, [.nilFunc]⟩),
 (413, ⟨1, .other, [.nilFunc]⟩),
 (414, ⟨1, .other, [.nilFunc]⟩),
 (415, ⟨1, .other, [.nilFunc]⟩),
 (416, ⟨1, .other, [.nilFunc]⟩),
 (418, ⟨1, .other, [.nilFunc]⟩),
 (419, ⟨1, .other, [.nilFunc]⟩),
 (420, ⟨1, .other, [.nilFunc]⟩),
 (421, ⟨1, .other, [.map none]⟩),
 (422, ⟨1, .other, [.nilFunc]⟩),
 (423, ⟨2, .struct [(0, 1, false), (1, 1, false)], [.int .i64 0, .int .i64 0]⟩),
 (424, ⟨2, .struct [(0, 1, false), (1, 1, false)], [.int .i64 0, .int .i64 0]⟩),
 (425, ⟨1, .other, [.nilFunc]⟩),
 (426, ⟨1, .other, [.nilFunc]⟩),
 (427, ⟨24, .arr 24 5 1 false, []⟩),
 (428, ⟨1, .other, [.nilFunc]⟩),
 (429, ⟨1, .other, [.nilFunc]⟩),
 (431, ⟨1, .other, [.nilFunc]⟩),
 (432, ⟨256, .arr 256 5 1 false, []⟩),
 (433, ⟨2, .struct [(0, 1, false), (1, 1, false)], [.int .u8 0, .int .u8 0]⟩),
 (434, ⟨2, .struct [(0, 1, false), (1, 1, false)], [.int .u8 0, .int .u8 0]⟩),
 (435, ⟨32, .arr 16 434 2 true, []⟩),
 (436, ⟨1, .other, [.nilFunc]⟩),
 (437, ⟨1, .other, [.nilFunc]⟩),
 (438, ⟨1, .ptr, [.pointer none]⟩),
 (439, ⟨1, .struct [(0, 1, false)], [.string ByteArray.empty]⟩),
 (440, ⟨1, .struct [(0, 1, false)], [.string ByteArray.empty]⟩),
 (441, ⟨1, .other, [.nilFunc]⟩),
 (442, ⟨1, .other, [.nilFunc]⟩),
 (443, ⟨1, .other, [.map none]⟩),
 (444, ⟨1, .other, [.nilFunc]⟩),
 (445, ⟨1, .other, [.nilFunc]⟩),
 (446, ⟨20, .arr 20 216 1 false, []⟩),
 (447, ⟨65, .arr 65 5 1 false, []⟩),
 (448, ⟨1, .other, [.nilFunc]⟩),
 (449, ⟨1, .other, [.nilFunc]⟩),
 (450, ⟨32, .arr 32 5 1 false, []⟩),
 (458, ⟨1, .other, [.nilFunc]⟩),
 (463, ⟨1, .other, [.nilFunc]⟩),
 (467, ⟨1, .other, [.nilFunc]⟩),
 (468, ⟨1, .other, [.nilFunc]⟩),
 (469, ⟨1, .other, [.nilFunc]⟩),
 (470, ⟨1, .other, [.nilFunc]⟩),
 (471, ⟨1, .other, [.nilFunc]⟩),
 (472, ⟨1, .other, [.int .u16 0]⟩),
 (473, ⟨1, .slice 472 1 false, [.slice none 0 0]⟩),
 (474, ⟨1, .other, [.nilFunc]⟩),
 (475, ⟨1, .slice 219 1 false, [.slice none 0 0]⟩),
 (476, ⟨1, .other, [.nilFunc]⟩),
 (485, ⟨1, .ptr, [.pointer none]⟩)]
theorem tabOk1 : TIok Tryz.prog 1 ⟨1, .other, [.nilFunc]⟩ := tiO
theorem tabOk2 : TIok Tryz.prog 2 ⟨1, .int, [.int .i64 0]⟩ := tiO
theorem tabOk3 : TIok Tryz.prog 3 ⟨1, .int, [.int .i64 0]⟩ := tiO
theorem tabOk4 : TIok Tryz.prog 4 ⟨1, .bool, [.bool false]⟩ := tiO
theorem tabOk5 : TIok Tryz.prog 5 ⟨1, .other, [.int .u8 0]⟩ := tiO
theorem tabOk9 : TIok Tryz.prog 9 ⟨1, .str, [.string ByteArray.empty]⟩ := tiO
theorem tabOk12 : TIok Tryz.prog 12 ⟨1, .other, [.int .u64 0]⟩ := tiO
theorem tabOk13 : TIok Tryz.prog 13 ⟨2, .struct [(0, 1, false), (1, 1, false)], [.string ByteArray.empty, .int .u64 0]⟩ := tiO
theorem tabOk20 : TIok Tryz.prog 20 ⟨1, .iface, [.nilIface]⟩ := tiO
theorem tabOk21 : TIok Tryz.prog 21 ⟨1, .other, [.int .i32 0]⟩ := tiO
theorem tabOk22 : TIok Tryz.prog 22 ⟨1, .slice 9 1 false, [.slice none 0 0]⟩ := tiO
theorem tabOk23 : TIok Tryz.prog 23 ⟨1, .other, [.nilFunc]⟩ := tiO
theorem tabOk24 : TIok Tryz.prog 24 ⟨1, .iface, [.nilIface]⟩ := tiO
theorem tabOk25 : TIok Tryz.prog 25 ⟨1, .iface, [.nilIface]⟩ := tiO
theorem tabOk27 : TIok Tryz.prog 27 ⟨1, .other, [.nilFunc]⟩ := tiO
theorem tabOk28 : TIok Tryz.prog 28 ⟨1, .slice 98 5 true, [.slice none 0 0]⟩ := tiO
theorem tabOk29 : TIok Tryz.prog 29 ⟨2, .struct [(0, 1, false), (1, 1, false)], [.int .i64 0, .int .i64 0]⟩ := tiO
theorem tabOk30 : TIok Tryz.prog 30 ⟨2, .struct [(0, 1, false), (1, 1, false)], [.int .i64 0, .int .i64 0]⟩ := tiO
theorem tabOk32 : TIok Tryz.prog 32 ⟨1, .other, [.nilFunc]⟩ := tiO
theorem tabOk33 : TIok Tryz.prog 33 ⟨1, .other, [.nilFunc]⟩ := tiO
theorem tabOk34 : TIok Tryz.prog 34 ⟨1, .other, [.nilFunc]⟩ := tiO
theorem tabOk36 : TIok Tryz.prog 36 ⟨1, .other, [.nilFunc]⟩ := tiO
theorem tabOk37 : TIok Tryz.prog 37 ⟨1, .other, [.nilFunc]⟩ := tiO
theorem tabOk38 : TIok Tryz.prog 38 ⟨2, .struct [(0, 1, false), (1, 1, false)], [.int .i64 0, .int .i64 0]⟩ := tiO
theorem tabOk39 : TIok Tryz.prog 39 ⟨2, .struct [(0, 1, false), (1, 1, false)], [.int .i64 0, .int .i64 0]⟩ := tiO
theorem tabOk40 : TIok Tryz.prog 40 ⟨6, .struct [(0, 1, false), (1, 2, true), (3, 2, true), (5, 1, false)], [.int .i64 0, .int .i64 0, .int .i64 0, .int .i64 0, .int .i64 0, .int .i64 0]⟩ := tiO
theorem tabOk41 : TIok Tryz.prog 41 ⟨6, .struct [(0, 1, false), (1, 2, true), (3, 2, true), (5, 1, false)], [.int .i64 0, .int .i64 0, .int .i64 0, .int .i64 0, .int .i64 0, .int .i64 0]⟩ := tiO
theorem tabOk43 : TIok Tryz.prog 43 ⟨1, .other, [.nilFunc]⟩ := tiO
theorem tabOk44 : TIok Tryz.prog 44 ⟨1, .other, [.nilFunc]⟩ := tiO
theorem tabOk45 : TIok Tryz.prog 45 ⟨1, .slice 49 8 true, [.slice none 0 0]⟩ := tiO
theorem tabOk46 : TIok Tryz.prog 46 ⟨1, .other, [.nilFunc]⟩ := tiO
theorem tabOk47 : TIok Tryz.prog 47 ⟨1, .slice 3 1 false, [.slice none 0 0]⟩ := tiO
theorem tabOk48 : TIok Tryz.prog 48 ⟨8, .struct [(0, 1, false), (1, 1, false), (2, 6, true)], [.string ByteArray.empty, .slice none 0 0, .int .i64 0, .int .i64 0, .int .i64 0, .int .i64 0, .int .i64 0, .int .i64 0]⟩ := tiO
theorem tabOk49 : TIok Tryz.prog 49 ⟨8, .struct [(0, 1, false), (1, 1, false), (2, 6, true)], [.string ByteArray.empty, .slice none 0 0, .int .i64 0, .int .i64 0, .int .i64 0, .int .i64 0, .int .i64 0, .int .i64 0]⟩ := tiO
theorem tabOk50 : TIok Tryz.prog 50 ⟨1, .other, [.nilFunc]⟩ := tiO
theorem tabOk51 : TIok Tryz.prog 51 ⟨1, .other, [.nilFunc]⟩ := tiO
theorem tabOk52 : TIok Tryz.prog 52 ⟨1, .other, [.nilFunc]⟩ := tiO
theorem tabOk53 : TIok Tryz.prog 53 ⟨1, .other, [.nilFunc]⟩ := tiO
theorem tabOk54 : TIok Tryz.prog 54 ⟨1, .ptr, [.pointer none]⟩ := tiO
theorem tabOk55 : TIok Tryz.prog 55 ⟨1, .other, [.nilFunc]⟩ := tiO
theorem tabOk56 : TIok Tryz.prog 56 ⟨1, .other, [.nilFunc]⟩ := tiO
theorem tabOk57 : TIok Tryz.prog 57 ⟨1, .other, [.nilFunc]⟩ := tiO
theorem tabOk58 : TIok Tryz.prog 58 ⟨1, .slice 28 1 false, [.slice none 0 0]⟩ := tiO
theorem tabOk60 : TIok Tryz.prog 60 ⟨1, .other, [.nilFunc]⟩ := tiO
theorem tabOk61 : TIok Tryz.prog 61 ⟨1, .other, [.nilFunc]⟩ := tiO
theorem tabOk63 : TIok Tryz.prog 63 ⟨1, .other, [.nilFunc]⟩ := tiO
theorem tabOk64 : TIok Tryz.prog 64 ⟨1, .other, [.nilFunc]⟩ := tiO
theorem tabOk65 : TIok Tryz.prog 65 ⟨1, .other, [.nilFunc]⟩ := tiO
theorem tabOk66 : TIok Tryz.prog 66 ⟨1, .slice 47 1 false, [.slice none 0 0]⟩ := tiO
theorem tabOk67 : TIok Tryz.prog 67 ⟨1, .slice 75 2 true, [.slice none 0 0]⟩ := tiO
theorem tabOk69 : TIok Tryz.prog 69 ⟨1, .other, [.nilFunc]⟩ := tiO
theorem tabOk70 : TIok Tryz.prog 70 ⟨1, .other, [.nilFunc]⟩ := tiO
theorem tabOk71 : TIok Tryz.prog 71 ⟨1, .other, [.nilFunc]⟩ := tiO
theorem tabOk72 : TIok Tryz.prog 72 ⟨1, .other, [.nilFunc]⟩ := tiO
theorem tabOk73 : TIok Tryz.prog 73 ⟨1, .slice 157 2 true, [.slice none 0 0]⟩ := tiO
theorem tabOk74 : TIok Tryz.prog 74 ⟨2, .struct [(0, 1, false), (1, 1, false)], [.slice none 0 0, .slice none 0 0]⟩ := tiO
theorem tabOk75 : TIok Tryz.prog 75 ⟨2, .struct [(0, 1, false), (1, 1, false)], [.slice none 0 0, .slice none 0 0]⟩ := tiO
theorem tabOk76 : TIok Tryz.prog 76 ⟨1, .other, [.nilFunc]⟩ := tiO
theorem tabOk77 : TIok Tryz.prog 77 ⟨1, .slice 156 2 true, [.slice none 0 0]⟩ := tiO
theorem tabOk78 : TIok Tryz.prog 78 ⟨1, .other, [.nilFunc]⟩ := tiO
theorem tabOk79 : TIok Tryz.prog 79 ⟨1, .slice 111 1 false, [.slice none 0 0]⟩ := tiO
theorem tabOk80 : TIok Tryz.prog 80 ⟨1, .slice 109 1 false, [.slice none 0 0]⟩ := tiO
theorem tabOk81 : TIok Tryz.prog 81 ⟨1, .slice 200 5 true, [.slice none 0 0]⟩ := tiO
theorem tabOk82 : TIok Tryz.prog 82 ⟨7, .struct [(0, 1, false), (1, 1, false), (2, 1, false), (3, 1, false), (4, 1, false), (5, 1, false), (6, 1, false)], [.slice none 0 0, .slice none 0 0, .slice none 0 0, .slice none 0 0, .int .i64 0, .int .i64 0, .slice none 0 0]⟩ := tiO
theorem tabOk83 : TIok Tryz.prog 83 ⟨7, .struct [(0, 1, false), (1, 1, false), (2, 1, false), (3, 1, false), (4, 1, false), (5, 1, false), (6, 1, false)], [.slice none 0 0, .slice none 0 0, .slice none 0 0, .slice none 0 0, .int .i64 0, .int .i64 0, .slice none 0 0]⟩ := tiO
theorem tabOk84 : TIok Tryz.prog 84 ⟨1, .other, [.nilFunc]⟩ := tiO
theorem tabOk85 : TIok Tryz.prog 85 ⟨1, .ptr, [.pointer none]⟩ := tiO
theorem tabOk87 : TIok Tryz.prog 87 ⟨1, .other, [.nilFunc]⟩ := tiO
theorem tabOk88 : TIok Tryz.prog 88 ⟨1, .ptr, [.pointer none]⟩ := tiO
theorem tabOk89 : TIok Tryz.prog 89 ⟨1, .struct [(0, 1, false)], [.pointer none]⟩ := tiO
theorem tabOk90 : TIok Tryz.prog 90 ⟨1, .struct [(0, 1, false)], [.pointer none]⟩ := tiO
theorem tabOk92 : TIok Tryz.prog 92 ⟨1, .other, [.nilFunc]⟩ := tiO
theorem tabOk93 : TIok Tryz.prog 93 ⟨1, .other, [.nilFunc]⟩ := tiO
theorem tabOk94 : TIok Tryz.prog 94 ⟨1, .other, [.nilFunc]⟩ := tiO
theorem tabOk95 : TIok Tryz.prog 95 ⟨1, .other, [.nilFunc]⟩ := tiO
theorem tabOk96 : TIok Tryz.prog 96 ⟨1, .other, [.nilFunc]⟩ := tiO
theorem tabOk97 : TIok Tryz.prog 97 ⟨5, .struct [(0, 1, false), (1, 1, false), (2, 1, false), (3, 1, false), (4, 1, false)], [.bool false, .bool false, .int .i64 0, .int .i64 0, .int .i64 0]⟩ := tiO
theorem tabOk98 : TIok Tryz.prog 98 ⟨5, .struct [(0, 1, false), (1, 1, false), (2, 1, false), (3, 1, false), (4, 1, false)], [.bool false, .bool false, .int .i64 0, .int .i64 0, .int .i64 0]⟩ := tiO
theorem tabOk100 : TIok Tryz.prog 100 ⟨1, .other, [.nilFunc]⟩ := tiO
theorem tabOk102 : TIok Tryz.prog 102 ⟨1, .other, [.nilFunc]⟩ := tiO
theorem tabOk103 : TIok Tryz.prog 103 ⟨1, .other, [.nilFunc]⟩ := tiO
theorem tabOk105 : TIok Tryz.prog 105 ⟨1, .other, [.nilFunc]⟩ := tiO
theorem tabOk106 : TIok Tryz.prog 106 ⟨1, .other, [.nilFunc]⟩ := tiO
theorem tabOk107 : TIok Tryz.prog 107 ⟨1, .other, [.nilFunc]⟩ := tiO
theorem tabOk108 : TIok Tryz.prog 108 ⟨1, .other, [.nilFunc]⟩ := tiO
theorem tabOk109 : TIok Tryz.prog 109 ⟨1, .ptr, [.pointer none]⟩ := tiO
theorem tabOk110 : TIok Tryz.prog 110 ⟨1, .other, [.nilFunc]⟩ := tiO
theorem tabOk111 : TIok Tryz.prog 111 ⟨1, .ptr, [.pointer none]⟩ := tiO
theorem tabOk113 : TIok Tryz.prog 113 ⟨1, .other, [.nilFunc]⟩ := tiO
theorem tabOk114 : TIok Tryz.prog 114 ⟨1, .other, [.nilFunc]⟩ := tiO
theorem tabOk115 : TIok Tryz.prog 115 ⟨1, .other, [.nilFunc]⟩ := tiO
theorem tabOk116 : TIok Tryz.prog 116 ⟨1, .other, [.nilFunc]⟩ := tiO
theorem tabOk118 : TIok Tryz.prog 118 ⟨1, .other, [.nilFunc]⟩ := tiO
theorem tabOk119 : TIok Tryz.prog 119 ⟨1, .other, [.nilFunc]⟩ := tiO
theorem tabOk120 : TIok Tryz.prog 120 ⟨4, .struct [(0, 1, false), (1, 1, false), (2, 1, false), (3, 1, false)], [.int .i64 0, .int .i64 0, .int .i64 0, .bool false]⟩ := tiO
theorem tabOk121 : TIok Tryz.prog 121 ⟨4, .struct [(0, 1, false), (1, 1, false), (2, 1, false), (3, 1, false)], [.int .i64 0, .int .i64 0, .int .i64 0, .bool false]⟩ := tiO
theorem tabOk122 : TIok Tryz.prog 122 ⟨1, .ptr, [.pointer none]⟩ := tiO
theorem tabOk123 : TIok Tryz.prog 123 ⟨1, .ptr, [.pointer none]⟩ := tiO
theorem tabOk124 : TIok Tryz.prog 124 ⟨1, .ptr, [.pointer none]⟩ := tiO
theorem tabOk125 : TIok Tryz.prog 125 ⟨1, .ptr, [.pointer none]⟩ := tiO
theorem tabOk126 : TIok Tryz.prog 126 ⟨1, .ptr, [.pointer none]⟩ := tiO
theorem tabOk127 : TIok Tryz.prog 127 ⟨8, .struct [(0, 1, false), (1, 1, false), (2, 1, false), (3, 1, false), (4, 1, false), (5, 1, false), (6, 1, false), (7, 1, false)], [.int .i64 0, .int .i64 0, .pointer none, .pointer none, .pointer none, .pointer none, .pointer none, .slice none 0 0]⟩ := tiO
theorem tabOk128 : TIok Tryz.prog 128 ⟨8, .struct [(0, 1, false), (1, 1, false), (2, 1, false), (3, 1, false), (4, 1, false), (5, 1, false), (6, 1, false), (7, 1, false)], [.int .i64 0, .int .i64 0, .pointer none, .pointer none, .pointer none, .pointer none, .pointer none, .slice none 0 0]⟩ := tiO
theorem tabOk129 : TIok Tryz.prog 129 ⟨1, .slice 207 8 true, [.slice none 0 0]⟩ := tiO
theorem tabOk130 : TIok Tryz.prog 130 ⟨1, .other, [.nilFunc]⟩ := tiO
theorem tabOk131 : TIok Tryz.prog 131 ⟨1, .slice 209 10 true, [.slice none 0 0]⟩ := tiO
theorem tabOk132 : TIok Tryz.prog 132 ⟨2, .struct [(0, 1, false), (1, 1, false)], [.int .i64 0, .slice none 0 0]⟩ := tiO
theorem tabOk133 : TIok Tryz.prog 133 ⟨2, .struct [(0, 1, false), (1, 1, false)], [.int .i64 0, .slice none 0 0]⟩ := tiO
theorem tabOk134 : TIok Tryz.prog 134 ⟨2, .struct [(0, 1, false), (1, 1, false)], [.int .i64 0, .slice none 0 0]⟩ := tiO
theorem tabOk135 : TIok Tryz.prog 135 ⟨2, .struct [(0, 1, false), (1, 1, false)], [.int .i64 0, .slice none 0 0]⟩ := tiO
theorem tabOk136 : TIok Tryz.prog 136 ⟨5, .struct [(0, 1, false), (1, 1, false), (2, 1, false), (3, 1, false), (4, 1, false)], [.pointer none, .int .i64 0, .int .i64 0, .int .i64 0, .bool false]⟩ := tiO
theorem tabOk137 : TIok Tryz.prog 137 ⟨5, .struct [(0, 1, false), (1, 1, false), (2, 1, false), (3, 1, false), (4, 1, false)], [.pointer none, .int .i64 0, .int .i64 0, .int .i64 0, .bool false]⟩ := tiO
theorem tabOk138 : TIok Tryz.prog 138 ⟨1, .other, [.nilFunc]⟩ := tiO
theorem tabOk139 : TIok Tryz.prog 139 ⟨1, .slice 25 1 false, [.slice none 0 0]⟩ := tiO
theorem tabOk141 : TIok Tryz.prog 141 ⟨1, .other, [.nilFunc]⟩ := tiO
theorem tabOk142 : TIok Tryz.prog 142 ⟨1, .other, [.nilFunc]⟩ := tiO
theorem tabOk143 : TIok Tryz.prog 143 ⟨1, .ptr, [.pointer none]⟩ := tiO
theorem tabOk144 : TIok Tryz.prog 144 ⟨1, .other, [.nilFunc]⟩ := tiO
theorem tabOk145 : TIok Tryz.prog 145 ⟨1, .ptr, [.pointer none]⟩ := tiO
theorem tabOk146 : TIok Tryz.prog 146 ⟨2, .struct [(0, 1, false), (1, 1, false)], [.int .i64 0, .nilIface]⟩ := tiO
theorem tabOk147 : TIok Tryz.prog 147 ⟨2, .struct [(0, 1, false), (1, 1, false)], [.int .i64 0, .nilIface]⟩ := tiO
theorem tabOk148 : TIok Tryz.prog 148 ⟨1, .other, [.nilFunc]⟩ := tiO
theorem tabOk149 : TIok Tryz.prog 149 ⟨1, .other, [.nilFunc]⟩ := tiO
theorem tabOk151 : TIok Tryz.prog 151 ⟨1, .other, [.nilFunc]⟩ := tiO
theorem tabOk152 : TIok Tryz.prog 152 ⟨1, .other, [.nilFunc]⟩ := tiO
theorem tabOk153 : TIok Tryz.prog 153 ⟨1, .other, [.nilFunc]⟩ := tiO
theorem tabOk154 : TIok Tryz.prog 154 ⟨1, .other, [.nilFunc]⟩ := tiO
theorem tabOk155 : TIok Tryz.prog 155 ⟨2, .struct [(0, 1, false), (1, 1, false)], [.int .i64 0, .int .i64 0]⟩ := tiO
theorem tabOk156 : TIok Tryz.prog 156 ⟨2, .struct [(0, 1, false), (1, 1, false)], [.int .i64 0, .int .i64 0]⟩ := tiO
theorem tabOk157 : TIok Tryz.prog 157 ⟨2, .struct [(0, 1, false), (1, 1, false)], [.int .i64 0, .int .i64 0]⟩ := tiO
theorem tabOk158 : TIok Tryz.prog 158 ⟨1, .ptr, [.pointer none]⟩ := tiO
theorem tabOk159 : TIok Tryz.prog 159 ⟨2, .arr 2 158 1 false, [.pointer none, .pointer none]⟩ := tiO
theorem tabOk160 : TIok Tryz.prog 160 ⟨1, .slice 350 5 true, [.slice none 0 0]⟩ := tiO
theorem tabOk161 : TIok Tryz.prog 161 ⟨7, .struct [(0, 2, true), (2, 1, false), (3, 1, false), (4, 1, false), (5, 1, false), (6, 1, false)], [.pointer none, .pointer none, .slice none 0 0, .slice none 0 0, .int .i64 0, .int .i64 0, .slice none 0 0]⟩ := tiO
theorem tabOk162 : TIok Tryz.prog 162 ⟨7, .struct [(0, 2, true), (2, 1, false), (3, 1, false), (4, 1, false), (5, 1, false), (6, 1, false)], [.pointer none, .pointer none, .slice none 0 0, .slice none 0 0, .int .i64 0, .int .i64 0, .slice none 0 0]⟩ := tiO
theorem tabOk163 : TIok Tryz.prog 163 ⟨1, .ptr, [.pointer none]⟩ := tiO
theorem tabOk164 : TIok Tryz.prog 164 ⟨1, .other, [.nilFunc]⟩ := tiO
theorem tabOk165 : TIok Tryz.prog 165 ⟨1, .ptr, [.pointer none]⟩ := tiO
theorem tabOk167 : TIok Tryz.prog 167 ⟨1, .other, [.nilFunc]⟩ := tiO
theorem tabOk168 : TIok Tryz.prog 168 ⟨2, .struct [(0, 1, false), (1, 1, false)], [.pointer none, .pointer none]⟩ := tiO
theorem tabOk169 : TIok Tryz.prog 169 ⟨2, .struct [(0, 1, false), (1, 1, false)], [.pointer none, .pointer none]⟩ := tiO
theorem tabOk171 : TIok Tryz.prog 171 ⟨1, .other, [.nilFunc]⟩ := tiO
theorem tabOk172 : TIok Tryz.prog 172 ⟨1, .other, [.nilFunc]⟩ := tiO
theorem tabOk173 : TIok Tryz.prog 173 ⟨1, .other, [.nilFunc]⟩ := tiO
theorem tabOk174 : TIok Tryz.prog 174 ⟨1, .other, [.nilFunc]⟩ := tiO
theorem tabOk175 : TIok Tryz.prog 175 ⟨2, .struct [(0, 1, false), (1, 1, false)], [.string ByteArray.empty, .nilFunc]⟩ := tiO
theorem tabOk176 : TIok Tryz.prog 176 ⟨2, .struct [(0, 1, false), (1, 1, false)], [.string ByteArray.empty, .nilFunc]⟩ := tiO
theorem tabOk178 : TIok Tryz.prog 178 ⟨1, .other, [.map none]⟩ := tiO
theorem tabOk179 : TIok Tryz.prog 179 ⟨1, .other, [.nilFunc]⟩ := tiO
theorem tabOk181 : TIok Tryz.prog 181 ⟨1, .other, [.nilFunc]⟩ := tiO
theorem tabOk182 : TIok Tryz.prog 182 ⟨1, .other, [.nilFunc]⟩ := tiO
theorem tabOk183 : TIok Tryz.prog 183 ⟨1, .other, [.nilFunc]⟩ := tiO
theorem tabOk184 : TIok Tryz.prog 184 ⟨1, .other, [.nilFunc]⟩ := tiO
theorem tabOk186 : TIok Tryz.prog 186 ⟨1, .other, [.nilFunc]⟩ := tiO
theorem tabOk187 : TIok Tryz.prog 187 ⟨1, .other, [.nilFunc]⟩ := tiO
theorem tabOk188 : TIok Tryz.prog 188 ⟨4, .arr 4 9 1 false, [.string ByteArray.empty, .string ByteArray.empty, .string ByteArray.empty, .string ByteArray.empty]⟩ := tiO
theorem tabOk189 : TIok Tryz.prog 189 ⟨1, .other, [.nilFunc]⟩ := tiO
theorem tabOk190 : TIok Tryz.prog 190 ⟨1, .other, [.nilFunc]⟩ := tiO
theorem tabOk191 : TIok Tryz.prog 191 ⟨1, .other, [.nilFunc]⟩ := tiO
theorem tabOk192 : TIok Tryz.prog 192 ⟨1, .slice 5 1 false, [.slice none 0 0]⟩ := tiO
theorem tabOk193 : TIok Tryz.prog 193 ⟨4, .struct [(0, 1, false), (1, 1, false), (2, 1, false), (3, 1, false)], [.string ByteArray.empty, .bool false, .int .i64 0, .bool false]⟩ := tiO
theorem tabOk194 : TIok Tryz.prog 194 ⟨4, .struct [(0, 1, false), (1, 1, false), (2, 1, false), (3, 1, false)], [.string ByteArray.empty, .bool false, .int .i64 0, .bool false]⟩ := tiO
theorem tabOk195 : TIok Tryz.prog 195 ⟨1, .other, [.nilFunc]⟩ := tiO
theorem tabOk196 : TIok Tryz.prog 196 ⟨1, .other, [.nilFunc]⟩ := tiO
theorem tabOk197 : TIok Tryz.prog 197 ⟨1, .other, [.nilFunc]⟩ := tiO
theorem tabOk198 : TIok Tryz.prog 198 ⟨1, .other, [.nilFunc]⟩ := tiO
theorem tabOk199 : TIok Tryz.prog 199 ⟨5, .struct [(0, 1, false), (1, 1, false), (2, 1, false), (3, 1, false), (4, 1, false)], [.int .i64 0, .int .i64 0, .int .i64 0, .bool false, .slice none 0 0]⟩ := tiO
theorem tabOk200 : TIok Tryz.prog 200 ⟨5, .struct [(0, 1, false), (1, 1, false), (2, 1, false), (3, 1, false), (4, 1, false)], [.int .i64 0, .int .i64 0, .int .i64 0, .bool false, .slice none 0 0]⟩ := tiO
theorem tabOk202 : TIok Tryz.prog 202 ⟨1, .other, [.nilFunc]⟩ := tiO
theorem tabOk203 : TIok Tryz.prog 203 ⟨1, .other, [.nilFunc]⟩ := tiO
theorem tabOk204 : TIok Tryz.prog 204 ⟨1, .other, [.nilFunc]⟩ := tiO
theorem tabOk205 : TIok Tryz.prog 205 ⟨1, .other, [.nilFunc]⟩ := tiO
theorem tabOk206 : TIok Tryz.prog 206 ⟨8, .struct [(0, 1, false), (1, 2, true), (3, 2, true), (5, 1, false), (6, 1, false), (7, 1, false)], [.int .i64 0, .int .i64 0, .int .i64 0, .int .i64 0, .int .i64 0, .int .i64 0, .int .i64 0, .int .i64 0]⟩ := tiO
theorem tabOk207 : TIok Tryz.prog 207 ⟨8, .struct [(0, 1, false), (1, 2, true), (3, 2, true), (5, 1, false), (6, 1, false), (7, 1, false)], [.int .i64 0, .int .i64 0, .int .i64 0, .int .i64 0, .int .i64 0, .int .i64 0, .int .i64 0, .int .i64 0]⟩ := tiO
theorem tabOk208 : TIok Tryz.prog 208 ⟨10, .struct [(0, 1, false), (1, 1, false), (2, 8, true)], [.int .i64 0, .int .i64 0, .int .i64 0, .int .i64 0, .int .i64 0, .int .i64 0, .int .i64 0, .int .i64 0, .int .i64 0, .int .i64 0]⟩ := tiO
theorem tabOk209 : TIok Tryz.prog 209 ⟨10, .struct [(0, 1, false), (1, 1, false), (2, 8, true)], [.int .i64 0, .int .i64 0, .int .i64 0, .int .i64 0, .int .i64 0, .int .i64 0, .int .i64 0, .int .i64 0, .int .i64 0, .int .i64 0]⟩ := tiO
theorem tabOk216 : TIok Tryz.prog 216 ⟨1, .other, [.int .u64 0]⟩ := tiO
theorem tabOk219 : TIok Tryz.prog 219 ⟨1, .other, [.int .u32 0]⟩ := tiO
theorem tabOk222 : TIok Tryz.prog 222 ⟨1, .other, [.nilFunc]⟩ := tiO
theorem tabOk223 : TIok Tryz.prog 223 ⟨3, .struct [(0, 1, false), (1, 1, false), (2, 1, false)], [.int .i64 0, .slice none 0 0, .nilIface]⟩ := tiO
theorem tabOk224 : TIok Tryz.prog 224 ⟨3, .struct [(0, 1, false), (1, 1, false), (2, 1, false)], [.int .i64 0, .slice none 0 0, .nilIface]⟩ := tiO
theorem tabOk228 : TIok Tryz.prog 228 ⟨3, .struct [(0, 1, false), (1, 1, false), (2, 1, false)], [.pointer none, .pointer none, .int .u64 0]⟩ := tiO
theorem tabOk231 : TIok Tryz.prog 231 ⟨1, .iface, [.nilIface]⟩ := tiO
theorem tabOk233 : TIok Tryz.prog 233 ⟨1, .other, [.int .u8 0]⟩ := tiO
theorem tabOk237 : TIok Tryz.prog 237 ⟨1, .other, [.nilFunc]⟩ := tiO
theorem tabOk238 : TIok Tryz.prog 238 ⟨3, .arr 3 9 1 false, [.string ByteArray.empty, .string ByteArray.empty, .string ByteArray.empty]⟩ := tiO
theorem tabOk240 : TIok Tryz.prog 240 ⟨1, .other, [.nilFunc]⟩ := tiO
theorem tabOk241 : TIok Tryz.prog 241 ⟨1, .other, [.nilFunc]⟩ := tiO
theorem tabOk242 : TIok Tryz.prog 242 ⟨1, .other, [.nilFunc]⟩ := tiO
theorem tabOk243 : TIok Tryz.prog 243 ⟨1, .other, [.nilFunc]⟩ := tiO
theorem tabOk246 : TIok Tryz.prog 246 ⟨4, .struct [(0, 1, false), (1, 2, true), (3, 1, false)], [.int .i64 0, .slice none 0 0, .slice none 0 0, .nilIface]⟩ := tiO
theorem tabOk247 : TIok Tryz.prog 247 ⟨4, .struct [(0, 1, false), (1, 2, true), (3, 1, false)], [.int .i64 0, .slice none 0 0, .slice none 0 0, .nilIface]⟩ := tiO
theorem tabOk248 : TIok Tryz.prog 248 ⟨1, .other, [.nilFunc]⟩ := tiO
theorem tabOk249 : TIok Tryz.prog 249 ⟨1, .other, [.nilFunc]⟩ := tiO
theorem tabOk250 : TIok Tryz.prog 250 ⟨1, .other, [.nilFunc]⟩ := tiO
theorem tabOk251 : TIok Tryz.prog 251 ⟨64, .arr 64 5 1 false, []⟩ := ⟨by kernel_rfl, by kernel_rfl, .inl rfl⟩
theorem tabOk252 : TIok Tryz.prog 252 ⟨66, .struct [(0, 64, true), (64, 1, false), (65, 1, false)], []⟩ := ⟨by kernel_rfl, by kernel_rfl, .inl rfl⟩
theorem tabOk253 : TIok Tryz.prog 253 ⟨66, .struct [(0, 64, true), (64, 1, false), (65, 1, false)], []⟩ := ⟨by kernel_rfl, by kernel_rfl, .inl rfl⟩
theorem tabOk254 : TIok Tryz.prog 254 ⟨1, .ptr, [.pointer none]⟩ := tiO
theorem tabOk256 : TIok Tryz.prog 256 ⟨1, .other, [.nilFunc]⟩ := tiO
theorem tabOk257 : TIok Tryz.prog 257 ⟨1, .ptr, [.pointer none]⟩ := tiO
theorem tabOk259 : TIok Tryz.prog 259 ⟨1, .other, [.nilFunc]⟩ := tiO
theorem tabOk260 : TIok Tryz.prog 260 ⟨1, .ptr, [.pointer none]⟩ := tiO
theorem tabOk262 : TIok Tryz.prog 262 ⟨1, .other, [.nilFunc]⟩ := tiO
theorem tabOk263 : TIok Tryz.prog 263 ⟨1, .ptr, [.pointer none]⟩ := tiO
theorem tabOk264 : TIok Tryz.prog 264 ⟨1, .other, [.nilFunc]⟩ := tiO
theorem tabOk265 : TIok Tryz.prog 265 ⟨1, .ptr, [.pointer none]⟩ := tiO
theorem tabOk266 : TIok Tryz.prog 266 ⟨1, .other, [.nilFunc]⟩ := tiO
theorem tabOk267 : TIok Tryz.prog 267 ⟨8, .struct [(0, 1, false), (1, 1, false), (2, 1, false), (3, 1, false), (4, 1, false), (5, 1, false), (6, 1, false), (7, 1, false)], [.pointer none, .int .i64 0, .int .i64 0, .pointer none, .pointer none, .pointer none, .pointer none, .slice none 0 0]⟩ := tiO
theorem tabOk268 : TIok Tryz.prog 268 ⟨8, .struct [(0, 1, false), (1, 1, false), (2, 1, false), (3, 1, false), (4, 1, false), (5, 1, false), (6, 1, false), (7, 1, false)], [.pointer none, .int .i64 0, .int .i64 0, .pointer none, .pointer none, .pointer none, .pointer none, .slice none 0 0]⟩ := tiO
theorem tabOk270 : TIok Tryz.prog 270 ⟨1, .other, [.nilFunc]⟩ := tiO
theorem tabOk271 : TIok Tryz.prog 271 ⟨1, .other, [.nilFunc]⟩ := tiO
theorem tabOk272 : TIok Tryz.prog 272 ⟨1, .other, [.nilFunc]⟩ := tiO
theorem tabOk273 : TIok Tryz.prog 273 ⟨1, .other, [.nilFunc]⟩ := tiO
theorem tabOk274 : TIok Tryz.prog 274 ⟨1, .other, [.nilFunc]⟩ := tiO
theorem tabOk275 : TIok Tryz.prog 275 ⟨1, .other, [.nilFunc]⟩ := tiO
theorem tabOk276 : TIok Tryz.prog 276 ⟨1, .other, [.nilFunc]⟩ := tiO
theorem tabOk277 : TIok Tryz.prog 277 ⟨1, .other, [.nilFunc]⟩ := tiO
theorem tabOk278 : TIok Tryz.prog 278 ⟨1, .other, [.nilFunc]⟩ := tiO
theorem tabOk279 : TIok Tryz.prog 279 ⟨1, .other, [.nilFunc]⟩ := tiO
theorem tabOk280 : TIok Tryz.prog 280 ⟨1, .other, [.nilFunc]⟩ := tiO
theorem tabOk282 : TIok Tryz.prog 282 ⟨1, .other, [.nilFunc]⟩ := tiO
theorem tabOk283 : TIok Tryz.prog 283 ⟨1, .other, [.nilFunc]⟩ := tiO
theorem tabOk284 : TIok Tryz.prog 284 ⟨1, .other, [.nilFunc]⟩ := tiO
theorem tabOk285 : TIok Tryz.prog 285 ⟨1, .other, [.nilFunc]⟩ := tiO
theorem tabOk286 : TIok Tryz.prog 286 ⟨1, .ptr, [.pointer none]⟩ := tiO
theorem tabOk287 : TIok Tryz.prog 287 ⟨2, .struct [(0, 1, false), (1, 1, false)], [.pointer none, .slice none 0 0]⟩ := tiO
theorem tabOk288 : TIok Tryz.prog 288 ⟨2, .struct [(0, 1, false), (1, 1, false)], [.pointer none, .slice none 0 0]⟩ := tiO
theorem tabOk289 : TIok Tryz.prog 289 ⟨1, .other, [.nilFunc]⟩ := tiO
theorem tabOk290 : TIok Tryz.prog 290 ⟨1, .other, [.nilFunc]⟩ := tiO
theorem tabOk291 : TIok Tryz.prog 291 ⟨1, .other, [.nilFunc]⟩ := tiO
theorem tabOk292 : TIok Tryz.prog 292 ⟨1, .other, [.nilFunc]⟩ := tiO
theorem tabOk293 : TIok Tryz.prog 293 ⟨3, .struct [(0, 1, false), (1, 1, false), (2, 1, false)], [.pointer none, .slice none 0 0, .int .i64 0]⟩ := tiO
theorem tabOk294 : TIok Tryz.prog 294 ⟨3, .struct [(0, 1, false), (1, 1, false), (2, 1, false)], [.pointer none, .slice none 0 0, .int .i64 0]⟩ := tiO
theorem tabOk296 : TIok Tryz.prog 296 ⟨1, .other, [.nilFunc]⟩ := tiO
theorem tabOk297 : TIok Tryz.prog 297 ⟨1, .other, [.nilFunc]⟩ := tiO
theorem tabOk298 : TIok Tryz.prog 298 ⟨1, .other, [.nilFunc]⟩ := tiO
theorem tabOk299 : TIok Tryz.prog 299 ⟨1, .other, [.nilFunc]⟩ := tiO
theorem tabOk300 : TIok Tryz.prog 300 ⟨1, .other, [.nilFunc]⟩ := tiO
theorem tabOk301 : TIok Tryz.prog 301 ⟨1, .other, [.nilFunc]⟩ := tiO
theorem tabOk302 : TIok Tryz.prog 302 ⟨1, .other, [.nilFunc]⟩ := tiO
theorem tabOk303 : TIok Tryz.prog 303 ⟨1, .other, [.nilFunc]⟩ := tiO
theorem tabOk304 : TIok Tryz.prog 304 ⟨1, .other, [.nilFunc]⟩ := tiO
theorem tabOk305 : TIok Tryz.prog 305 ⟨1, .ptr, [.pointer none]⟩ := tiO
theorem tabOk306 : TIok Tryz.prog 306 ⟨1, .other, [.nilFunc]⟩ := tiO
theorem tabOk307 : TIok Tryz.prog 307 ⟨1, .other, [.int .u64 0]⟩ := tiO
theorem tabOk308 : TIok Tryz.prog 308 ⟨1, .other, [.nilFunc]⟩ := tiO
theorem tabOk309 : TIok Tryz.prog 309 ⟨1, .other, [.nilFunc]⟩ := tiO
theorem tabOk310 : TIok Tryz.prog 310 ⟨1, .other, [.nilFunc]⟩ := tiO
theorem tabOk311 : TIok Tryz.prog 311 ⟨1, .other, [.nilFunc]⟩ := tiO
theorem tabOk312 : TIok Tryz.prog 312 ⟨1, .ptr, [.pointer none]⟩ := tiO
theorem tabOk313 : TIok Tryz.prog 313 ⟨1, .other, [.nilFunc]⟩ := tiO
theorem tabOk319 : TIok Tryz.prog 319 ⟨1, .iface, [.nilIface]⟩ := tiO
theorem tabOk321 : TIok Tryz.prog 321 ⟨1, .other, [.nilFunc]⟩ := tiO
theorem tabOk322 : TIok Tryz.prog 322 ⟨1, .iface, [.nilIface]⟩ := tiO
theorem tabOk323 : TIok Tryz.prog 323 ⟨1, .other, [.nilFunc]⟩ := tiO
theorem tabOk324 : TIok Tryz.prog 324 ⟨1, .iface, [.nilIface]⟩ := tiO
theorem tabOk325 : TIok Tryz.prog 325 ⟨1, .other, [.nilFunc]⟩ := tiO
theorem tabOk326 : TIok Tryz.prog 326 ⟨1, .other, [.nilFunc]⟩ := tiO
theorem tabOk327 : TIok Tryz.prog 327 ⟨1, .other, [.nilFunc]⟩ := tiO
theorem tabOk328 : TIok Tryz.prog 328 ⟨320, .arr 32 209 10 true, []⟩ := ⟨by kernel_rfl, by kernel_rfl, .inl rfl⟩
theorem tabOk329 : TIok Tryz.prog 329 ⟨321, .struct [(0, 1, false), (1, 320, true)], []⟩ := ⟨by kernel_rfl, by kernel_rfl, .inl rfl⟩
theorem tabOk330 : TIok Tryz.prog 330 ⟨321, .struct [(0, 1, false), (1, 320, true)], []⟩ := ⟨by kernel_rfl, by kernel_rfl, .inl rfl⟩
theorem tabOk331 : TIok Tryz.prog 331 ⟨5, .struct [(0, 1, false), (1, 1, false), (2, 1, false), (3, 1, false), (4, 1, false)], [.pointer none, .int .i64 0, .int .i64 0, .int .i64 0, .bool false]⟩ := tiO
theorem tabOk332 : TIok Tryz.prog 332 ⟨5, .struct [(0, 1, false), (1, 1, false), (2, 1, false), (3, 1, false), (4, 1, false)], [.pointer none, .int .i64 0, .int .i64 0, .int .i64 0, .bool false]⟩ := tiO
theorem tabOk333 : TIok Tryz.prog 333 ⟨1, .other, [.nilFunc]⟩ := tiO
theorem tabOk334 : TIok Tryz.prog 334 ⟨4, .struct [(0, 1, false), (1, 1, false), (2, 1, false), (3, 1, false)], [.int .i64 0, .int .i64 0, .int .i64 0, .bool false]⟩ := tiO
theorem tabOk335 : TIok Tryz.prog 335 ⟨4, .struct [(0, 1, false), (1, 1, false), (2, 1, false), (3, 1, false)], [.int .i64 0, .int .i64 0, .int .i64 0, .bool false]⟩ := tiO
theorem tabOk336 : TIok Tryz.prog 336 ⟨32, .arr 32 3 1 false, []⟩ := ⟨by kernel_rfl, by kernel_rfl, .inl rfl⟩
theorem tabOk337 : TIok Tryz.prog 337 ⟨34, .struct [(0, 1, false), (1, 32, true), (33, 1, false)], []⟩ := ⟨by kernel_rfl, by kernel_rfl, .inl rfl⟩
theorem tabOk338 : TIok Tryz.prog 338 ⟨34, .struct [(0, 1, false), (1, 32, true), (33, 1, false)], []⟩ := ⟨by kernel_rfl, by kernel_rfl, .inl rfl⟩
theorem tabOk339 : TIok Tryz.prog 339 ⟨321, .struct [(0, 1, false), (1, 320, true)], []⟩ := ⟨by kernel_rfl, by kernel_rfl, .inl rfl⟩
theorem tabOk340 : TIok Tryz.prog 340 ⟨321, .struct [(0, 1, false), (1, 320, true)], []⟩ := ⟨by kernel_rfl, by kernel_rfl, .inl rfl⟩
theorem tabOk341 : TIok Tryz.prog 341 ⟨1, .other, [.nilFunc]⟩ := tiO
theorem tabOk342 : TIok Tryz.prog 342 ⟨1, .other, [.nilFunc]⟩ := tiO
theorem tabOk344 : TIok Tryz.prog 344 ⟨1, .other, [.nilFunc]⟩ := tiO
theorem tabOk345 : TIok Tryz.prog 345 ⟨1, .other, [.nilFunc]⟩ := tiO
theorem tabOk347 : TIok Tryz.prog 347 ⟨1, .other, [.nilFunc]⟩ := tiO
theorem tabOk348 : TIok Tryz.prog 348 ⟨1, .other, [.nilFunc]⟩ := tiO
theorem tabOk349 : TIok Tryz.prog 349 ⟨1, .other, [.nilFunc]⟩ := tiO
theorem tabOk350 : TIok Tryz.prog 350 ⟨5, .struct [(0, 1, false), (1, 1, false), (2, 1, false), (3, 1, false), (4, 1, false)], [.int .i64 0, .int .i64 0, .int .i64 0, .bool false, .slice none 0 0]⟩ := tiO
theorem tabOk351 : TIok Tryz.prog 351 ⟨1, .other, [.nilFunc]⟩ := tiO
theorem tabOk352 : TIok Tryz.prog 352 ⟨1, .other, [.nilFunc]⟩ := tiO
theorem tabOk353 : TIok Tryz.prog 353 ⟨1, .other, [.nilFunc]⟩ := tiO
theorem tabOk354 : TIok Tryz.prog 354 ⟨1, .other, [.nilFunc]⟩ := tiO
theorem tabOk355 : TIok Tryz.prog 355 ⟨1, .iface, [.nilIface]⟩ := tiO
theorem tabOk357 : TIok Tryz.prog 357 ⟨1, .other, [.nilFunc]⟩ := tiO
theorem tabOk359 : TIok Tryz.prog 359 ⟨1, .other, [.nilFunc]⟩ := tiO
theorem tabOk360 : TIok Tryz.prog 360 ⟨1, .other, [.nilFunc]⟩ := tiO
theorem tabOk361 : TIok Tryz.prog 361 ⟨1, .int, [.int .i64 0]⟩ := tiO
theorem tabOk363 : TIok Tryz.prog 363 ⟨1, .other, [.nilFunc]⟩ := tiO
theorem tabOk364 : TIok Tryz.prog 364 ⟨1, .ptr, [.pointer none]⟩ := tiO
theorem tabOk365 : TIok Tryz.prog 365 ⟨1, .other, [.nilFunc]⟩ := tiO
theorem tabOk366 : TIok Tryz.prog 366 ⟨1, .other, [.nilFunc]⟩ := tiO
theorem tabOk367 : TIok Tryz.prog 367 ⟨1, .ptr, [.pointer none]⟩ := tiO
theorem tabOk368 : TIok Tryz.prog 368 ⟨1, .other, [.nilFunc]⟩ := tiO
theorem tabOk369 : TIok Tryz.prog 369 ⟨1, .other, [.nilFunc]⟩ := tiO
theorem tabOk370 : TIok Tryz.prog 370 ⟨1, .other, [.nilFunc]⟩ := tiO
theorem tabOk371 : TIok Tryz.prog 371 ⟨1, .other, [.nilFunc]⟩ := tiO
theorem tabOk372 : TIok Tryz.prog 372 ⟨1, .other, [.nilFunc]⟩ := tiO
theorem tabOk373 : TIok Tryz.prog 373 ⟨1, .int, [.int .i64 0]⟩ := tiO
theorem tabOk374 : TIok Tryz.prog 374 ⟨1, .other, [.nilFunc]⟩ := tiO
theorem tabOk375 : TIok Tryz.prog 375 ⟨1, .other, [.nilFunc]⟩ := tiO
theorem tabOk376 : TIok Tryz.prog 376 ⟨1, .other, [.nilFunc]⟩ := tiO
theorem tabOk377 : TIok Tryz.prog 377 ⟨1, .other, [.nilFunc]⟩ := tiO
theorem tabOk378 : TIok Tryz.prog 378 ⟨1, .other, [.nilFunc]⟩ := tiO
theorem tabOk379 : TIok Tryz.prog 379 ⟨1, .ptr, [.pointer none]⟩ := tiO
theorem tabOk380 : TIok Tryz.prog 380 ⟨1, .other, [.nilFunc]⟩ := tiO
theorem tabOk381 : TIok Tryz.prog 381 ⟨1, .ptr, [.pointer none]⟩ := tiO
theorem tabOk382 : TIok Tryz.prog 382 ⟨1, .other, [.nilFunc]⟩ := tiO
theorem tabOk384 : TIok Tryz.prog 384 ⟨1, .other, [.nilFunc]⟩ := tiO
theorem tabOk385 : TIok Tryz.prog 385 ⟨1, .other, [.nilFunc]⟩ := tiO
theorem tabOk386 : TIok Tryz.prog 386 ⟨4, .arr 4 3 1 false, [.int .i64 0, .int .i64 0, .int .i64 0, .int .i64 0]⟩ := tiO
theorem tabOk387 : TIok Tryz.prog 387 ⟨1, .other, [.nilFunc]⟩ := tiO
theorem tabOk388 : TIok Tryz.prog 388 ⟨1, .other, [.nilFunc]⟩ := tiO
theorem tabOk389 : TIok Tryz.prog 389 ⟨1, .other, [.nilFunc]⟩ := tiO
theorem tabOk390 : TIok Tryz.prog 390 ⟨1, .other, [.nilFunc]⟩ := tiO
theorem tabOk392 : TIok Tryz.prog 392 ⟨1, .other, [.nilFunc]⟩ := tiO
theorem tabOk393 : TIok Tryz.prog 393 ⟨1, .other, [.nilFunc]⟩ := tiO
theorem tabOk394 : TIok Tryz.prog 394 ⟨1, .other, [.nilFunc]⟩ := tiO
theorem tabOk395 : TIok Tryz.prog 395 ⟨1, .ptr, [.pointer none]⟩ := tiO
theorem tabOk397 : TIok Tryz.prog 397 ⟨1, .other, [.nilFunc]⟩ := tiO
theorem tabOk398 : TIok Tryz.prog 398 ⟨1, .other, [.nilFunc]⟩ := tiO
theorem tabOk399 : TIok Tryz.prog 399 ⟨1, .other, [.nilFunc]⟩ := tiO
theorem tabOk400 : TIok Tryz.prog 400 ⟨1, .other, [.nilFunc]⟩ := tiO
theorem tabOk401 : TIok Tryz.prog 401 ⟨1, .other, [.nilFunc]⟩ := tiO
theorem tabOk402 : TIok Tryz.prog 402 ⟨1, .other, [.nilFunc]⟩ := tiO
theorem tabOk404 : TIok Tryz.prog 404 ⟨1, .other, [.nilFunc]⟩ := tiO
theorem tabOk405 : TIok Tryz.prog 405 ⟨1, .other, [.nilFunc]⟩ := tiO
theorem tabOk406 : TIok Tryz.prog 406 ⟨3, .struct [(0, 1, false), (1, 1, false), (2, 1, false)], [.string ByteArray.empty, .string ByteArray.empty, .nilIface]⟩ := tiO
theorem tabOk407 : TIok Tryz.prog 407 ⟨3, .struct [(0, 1, false), (1, 1, false), (2, 1, false)], [.string ByteArray.empty, .string ByteArray.empty, .nilIface]⟩ := tiO
theorem tabOk408 : TIok Tryz.prog 408 ⟨1, .other, [.nilFunc]⟩ := tiO
theorem tabOk409 : TIok Tryz.prog 409 ⟨1, .other, [.nilFunc]⟩ := tiO
theorem tabOk410 : TIok Tryz.prog 410 ⟨1, .other, [.nilFunc]⟩ := tiO
theorem tabOk411 : TIok Tryz.prog 411 ⟨1, .slice 4 1 false, [.slice none 0 0]⟩ := tiO
theorem tabOk412 : TIok Tryz.prog 412 ⟨1, .other, [.nilFunc]⟩ := tiO
theorem tabOk413 : TIok Tryz.prog 413 ⟨1, .other, [.nilFunc]⟩ := tiO
theorem tabOk414 : TIok Tryz.prog 414 ⟨1, .other, [.nilFunc]⟩ := tiO
theorem tabOk415 : TIok Tryz.prog 415 ⟨1, .other, [.nilFunc]⟩ := tiO
theorem tabOk416 : TIok Tryz.prog 416 ⟨1, .other, [.nilFunc]⟩ := tiO
theorem tabOk418 : TIok Tryz.prog 418 ⟨1, .other, [.nilFunc]⟩ := tiO
theorem tabOk419 : TIok Tryz.prog 419 ⟨1, .other, [.nilFunc]⟩ := tiO
theorem tabOk420 : TIok Tryz.prog 420 ⟨1, .other, [.nilFunc]⟩ := tiO
theorem tabOk421 : TIok Tryz.prog 421 ⟨1, .other, [.map none]⟩ := tiO
theorem tabOk422 : TIok Tryz.prog 422 ⟨1, .other, [.nilFunc]⟩ := tiO
theorem tabOk423 : TIok Tryz.prog 423 ⟨2, .struct [(0, 1, false), (1, 1, false)], [.int .i64 0, .int .i64 0]⟩ := tiO
theorem tabOk424 : TIok Tryz.prog 424 ⟨2, .struct [(0, 1, false), (1, 1, false)], [.int .i64 0, .int .i64 0]⟩ := tiO
theorem tabOk425 : TIok Tryz.prog 425 ⟨1, .other, [.nilFunc]⟩ := tiO
theorem tabOk426 : TIok Tryz.prog 426 ⟨1, .other, [.nilFunc]⟩ := tiO
theorem tabOk427 : TIok Tryz.prog 427 ⟨24, .arr 24 5 1 false, []⟩ := ⟨by kernel_rfl, by kernel_rfl, .inl rfl⟩
theorem tabOk428 : TIok Tryz.prog 428 ⟨1, .other, [.nilFunc]⟩ := tiO
theorem tabOk429 : TIok Tryz.prog 429 ⟨1, .other, [.nilFunc]⟩ := tiO
theorem tabOk431 : TIok Tryz.prog 431 ⟨1, .other, [.nilFunc]⟩ := tiO
theorem tabOk432 : TIok Tryz.prog 432 ⟨256, .arr 256 5 1 false, []⟩ := ⟨by kernel_rfl, by kernel_rfl, .inl rfl⟩
theorem tabOk433 : TIok Tryz.prog 433 ⟨2, .struct [(0, 1, false), (1, 1, false)], [.int .u8 0, .int .u8 0]⟩ := tiO
theorem tabOk434 : TIok Tryz.prog 434 ⟨2, .struct [(0, 1, false), (1, 1, false)], [.int .u8 0, .int .u8 0]⟩ := tiO
theorem tabOk435 : TIok Tryz.prog 435 ⟨32, .arr 16 434 2 true, []⟩ := ⟨by kernel_rfl, by kernel_rfl, .inl rfl⟩
theorem tabOk436 : TIok Tryz.prog 436 ⟨1, .other, [.nilFunc]⟩ := tiO
theorem tabOk437 : TIok Tryz.prog 437 ⟨1, .other, [.nilFunc]⟩ := tiO
theorem tabOk438 : TIok Tryz.prog 438 ⟨1, .ptr, [.pointer none]⟩ := tiO
theorem tabOk439 : TIok Tryz.prog 439 ⟨1, .struct [(0, 1, false)], [.string ByteArray.empty]⟩ := tiO
theorem tabOk440 : TIok Tryz.prog 440 ⟨1, .struct [(0, 1, false)], [.string ByteArray.empty]⟩ := tiO
theorem tabOk441 : TIok Tryz.prog 441 ⟨1, .other, [.nilFunc]⟩ := tiO
theorem tabOk442 : TIok Tryz.prog 442 ⟨1, .other, [.nilFunc]⟩ := tiO
theorem tabOk443 : TIok Tryz.prog 443 ⟨1, .other, [.map none]⟩ := tiO
theorem tabOk444 : TIok Tryz.prog 444 ⟨1, .other, [.nilFunc]⟩ := tiO
theorem tabOk445 : TIok Tryz.prog 445 ⟨1, .other, [.nilFunc]⟩ := tiO
theorem tabOk446 : TIok Tryz.prog 446 ⟨20, .arr 20 216 1 false, []⟩ := ⟨by kernel_rfl, by kernel_rfl, .inl rfl⟩
theorem tabOk447 : TIok Tryz.prog 447 ⟨65, .arr 65 5 1 false, []⟩ := ⟨by kernel_rfl, by kernel_rfl, .inl rfl⟩
theorem tabOk448 : TIok Tryz.prog 448 ⟨1, .other, [.nilFunc]⟩ := tiO
theorem tabOk449 : TIok Tryz.prog 449 ⟨1, .other, [.nilFunc]⟩ := tiO
theorem tabOk450 : TIok Tryz.prog 450 ⟨32, .arr 32 5 1 false, []⟩ := ⟨by kernel_rfl, by kernel_rfl, .inl rfl⟩
theorem tabOk458 : TIok Tryz.prog 458 ⟨1, .other, [.nilFunc]⟩ := tiO
theorem tabOk463 : TIok Tryz.prog 463 ⟨1, .other, [.nilFunc]⟩ := tiO
theorem tabOk467 : TIok Tryz.prog 467 ⟨1, .other, [.nilFunc]⟩ := tiO
theorem tabOk468 : TIok Tryz.prog 468 ⟨1, .other, [.nilFunc]⟩ := tiO
theorem tabOk469 : TIok Tryz.prog 469 ⟨1, .other, [.nilFunc]⟩ := tiO
theorem tabOk470 : TIok Tryz.prog 470 ⟨1, .other, [.nilFunc]⟩ := tiO
theorem tabOk471 : TIok Tryz.prog 471 ⟨1, .other, [.nilFunc]⟩ := tiO
theorem tabOk472 : TIok Tryz.prog 472 ⟨1, .other, [.int .u16 0]⟩ := tiO
theorem tabOk473 : TIok Tryz.prog 473 ⟨1, .slice 472 1 false, [.slice none 0 0]⟩ := tiO
theorem tabOk474 : TIok Tryz.prog 474 ⟨1, .other, [.nilFunc]⟩ := tiO
theorem tabOk475 : TIok Tryz.prog 475 ⟨1, .slice 219 1 false, [.slice none 0 0]⟩ := tiO
theorem tabOk476 : TIok Tryz.prog 476 ⟨1, .other, [.nilFunc]⟩ := tiO
theorem tabOk485 : TIok Tryz.prog 485 ⟨1, .ptr, [.pointer none]⟩ := tiO
set_option maxRecDepth 100000 in
theorem tabOk : TabOk Tryz.prog tab :=
 TabOk.of_all (⟨tabOk1, ⟨tabOk2, ⟨tabOk3, ⟨tabOk4, ⟨tabOk5, ⟨tabOk9, ⟨tabOk12, ⟨tabOk13, ⟨tabOk20, ⟨tabOk21, ⟨tabOk22, ⟨tabOk23, ⟨tabOk24, ⟨tabOk25, ⟨tabOk27, ⟨tabOk28, ⟨tabOk29, ⟨tabOk30, ⟨tabOk32, ⟨tabOk33, ⟨tabOk34, ⟨tabOk36, ⟨tabOk37, ⟨tabOk38, ⟨tabOk39, ⟨tabOk40, ⟨tabOk41, ⟨tabOk43, ⟨tabOk44, ⟨tabOk45, ⟨tabOk46, ⟨tabOk47, ⟨tabOk48, ⟨tabOk49, ⟨tabOk50, ⟨tabOk51, ⟨tabOk52, ⟨tabOk53, ⟨tabOk54, ⟨tabOk55, ⟨tabOk56, ⟨tabOk57, ⟨tabOk58, ⟨tabOk60, ⟨tabOk61, ⟨tabOk63, ⟨tabOk64, ⟨tabOk65, ⟨tabOk66, ⟨tabOk67, ⟨tabOk69, ⟨tabOk70, ⟨tabOk71, ⟨tabOk72, ⟨tabOk73, ⟨tabOk74, ⟨tabOk75, ⟨tabOk76, ⟨tabOk77, ⟨tabOk78, ⟨tabOk79, ⟨tabOk80, ⟨tabOk81, ⟨tabOk82, ⟨tabOk83, ⟨tabOk84, ⟨tabOk85, ⟨tabOk87, ⟨tabOk88, ⟨tabOk89, ⟨tabOk90, ⟨tabOk92, ⟨tabOk93, ⟨tabOk94, ⟨tabOk95, ⟨tabOk96, ⟨tabOk97, ⟨tabOk98, ⟨tabOk100, ⟨tabOk102, ⟨tabOk103, ⟨tabOk105, ⟨tabOk106, ⟨tabOk107, ⟨tabOk108, ⟨tabOk109, ⟨tabOk110, ⟨tabOk111, ⟨tabOk113, ⟨tabOk114, ⟨tabOk115, ⟨tabOk116, ⟨tabOk118, ⟨tabOk119, ⟨tabOk120, ⟨tabOk121, ⟨tabOk122, ⟨tabOk123, ⟨tabOk124, ⟨tabOk125, ⟨tabOk126, ⟨tabOk127, ⟨tabOk128, ⟨tabOk129, ⟨tabOk130, ⟨tabOk131, ⟨tabOk132, ⟨tabOk133, ⟨tabOk134, ⟨tabOk135, ⟨tabOk136, ⟨tabOk137, ⟨tabOk138, ⟨tabOk139, ⟨tabOk141, ⟨tabOk142, ⟨tabOk143, ⟨tabOk144, ⟨tabOk145, ⟨tabOk146, ⟨tabOk147, ⟨tabOk148, ⟨tabOk149, ⟨tabOk151, ⟨tabOk152, ⟨tabOk153, ⟨tabOk154, ⟨tabOk155, ⟨tabOk156, ⟨tabOk157, ⟨tabOk158, ⟨tabOk159, ⟨tabOk160, ⟨tabOk161, ⟨tabOk162, ⟨tabOk163, ⟨tabOk164, ⟨tabOk165, ⟨tabOk167, ⟨tabOk168, ⟨tabOk169, ⟨tabOk171, ⟨tabOk172, ⟨tabOk173, ⟨tabOk174, ⟨tabOk175, ⟨tabOk176, ⟨tabOk178, ⟨tabOk179, ⟨tabOk181, ⟨tabOk182, ⟨tabOk183, ⟨tabOk184, ⟨tabOk186, ⟨tabOk187, ⟨tabOk188, ⟨tabOk189, ⟨tabOk190, ⟨tabOk191, ⟨tabOk192, ⟨tabOk193, ⟨tabOk194, ⟨tabOk195, ⟨tabOk196, ⟨tabOk197, ⟨tabOk198, ⟨tabOk199, ⟨tabOk200, ⟨tabOk202, ⟨tabOk203, ⟨tabOk204, ⟨tabOk205, ⟨tabOk206, ⟨tabOk207, ⟨tabOk208, ⟨tabOk209, ⟨tabOk216, ⟨tabOk219, ⟨tabOk222, ⟨tabOk223, ⟨tabOk224, ⟨tabOk228, ⟨tabOk231, ⟨tabOk233, ⟨tabOk237, ⟨tabOk238, ⟨tabOk240, ⟨tabOk241, ⟨tabOk242, ⟨tabOk243, ⟨tabOk246, ⟨tabOk247, ⟨tabOk248, ⟨tabOk249, ⟨tabOk250, ⟨tabOk251, ⟨tabOk252, ⟨tabOk253, ⟨tabOk254, ⟨tabOk256, ⟨tabOk257, ⟨tabOk259, ⟨tabOk260, ⟨tabOk262, ⟨tabOk263, ⟨tabOk264, ⟨tabOk265, ⟨tabOk266, ⟨tabOk267, ⟨tabOk268, ⟨tabOk270, ⟨tabOk271, ⟨tabOk272, ⟨tabOk273, ⟨tabOk274, ⟨tabOk275, ⟨tabOk276, ⟨tabOk277, ⟨tabOk278, ⟨tabOk279, ⟨tabOk280, ⟨tabOk282, ⟨tabOk283, ⟨tabOk284, ⟨tabOk285, ⟨tabOk286, ⟨tabOk287, ⟨tabOk288, ⟨tabOk289, ⟨tabOk290, ⟨tabOk291, ⟨tabOk292, ⟨tabOk293, ⟨tabOk294, ⟨tabOk296, ⟨tabOk297, ⟨tabOk298, ⟨tabOk299, ⟨tabOk300, ⟨tabOk301, ⟨tabOk302, ⟨tabOk303, ⟨tabOk304, ⟨tabOk305, ⟨tabOk306, ⟨tabOk307, ⟨tabOk308, ⟨tabOk309, ⟨tabOk310, ⟨tabOk311, ⟨tabOk312, ⟨tabOk313, ⟨tabOk319, ⟨tabOk321, ⟨tabOk322, ⟨tabOk323, ⟨tabOk324, ⟨tabOk325, ⟨tabOk326, ⟨tabOk327, ⟨tabOk328, ⟨tabOk329, ⟨tabOk330, ⟨tabOk331, ⟨tabOk332, ⟨tabOk333, ⟨tabOk334, ⟨tabOk335, ⟨tabOk336, ⟨tabOk337, ⟨tabOk338, ⟨tabOk339, ⟨tabOk340, ⟨tabOk341, ⟨tabOk342, ⟨tabOk344, ⟨tabOk345, ⟨tabOk347, ⟨tabOk348, ⟨tabOk349, ⟨tabOk350, ⟨tabOk351, ⟨tabOk352, ⟨tabOk353, ⟨tabOk354, ⟨tabOk355, ⟨tabOk357, ⟨tabOk359, ⟨tabOk360, ⟨tabOk361, ⟨tabOk363, ⟨tabOk364, ⟨tabOk365, ⟨tabOk366, ⟨tabOk367, ⟨tabOk368, ⟨tabOk369, ⟨tabOk370, ⟨tabOk371, ⟨tabOk372, ⟨tabOk373, ⟨tabOk374, ⟨tabOk375, ⟨tabOk376, ⟨tabOk377, ⟨tabOk378, ⟨tabOk379, ⟨tabOk380, ⟨tabOk381, ⟨tabOk382, ⟨tabOk384, ⟨tabOk385, ⟨tabOk386, ⟨tabOk387, ⟨tabOk388, ⟨tabOk389, ⟨tabOk390, ⟨tabOk392, ⟨tabOk393, ⟨tabOk394, ⟨tabOk395, ⟨tabOk397, ⟨tabOk398, ⟨tabOk399, ⟨tabOk400, ⟨tabOk401, ⟨tabOk402, ⟨tabOk404, ⟨tabOk405, ⟨tabOk406, ⟨tabOk407, ⟨tabOk408, ⟨tabOk409, ⟨tabOk410, ⟨tabOk411, ⟨tabOk412, ⟨tabOk413, ⟨tabOk414, ⟨tabOk415, ⟨tabOk416, ⟨tabOk418, ⟨tabOk419, ⟨tabOk420, ⟨tabOk421, ⟨tabOk422, ⟨tabOk423, ⟨tabOk424, ⟨tabOk425, ⟨tabOk426, ⟨tabOk427, ⟨tabOk428, ⟨tabOk429, ⟨tabOk431, ⟨tabOk432, ⟨tabOk433, ⟨tabOk434, ⟨tabOk435, ⟨tabOk436, ⟨tabOk437, ⟨tabOk438, ⟨tabOk439, ⟨tabOk440, ⟨tabOk441, ⟨tabOk442, ⟨tabOk443, ⟨tabOk444, ⟨tabOk445, ⟨tabOk446, ⟨tabOk447, ⟨tabOk448, ⟨tabOk449, ⟨tabOk450, ⟨tabOk458, ⟨tabOk463, ⟨tabOk467, ⟨tabOk468, ⟨tabOk469, ⟨tabOk470, ⟨tabOk471, ⟨tabOk472, ⟨tabOk473, ⟨tabOk474, ⟨tabOk475, ⟨tabOk476, ⟨tabOk485, trivial⟩⟩⟩⟩⟩⟩⟩⟩⟩⟩⟩⟩⟩⟩⟩⟩⟩⟩⟩⟩⟩⟩⟩⟩⟩⟩⟩⟩⟩⟩⟩⟩⟩⟩⟩⟩⟩⟩⟩⟩⟩⟩⟩⟩⟩⟩⟩⟩⟩⟩⟩⟩⟩⟩⟩⟩⟩⟩⟩⟩⟩⟩⟩⟩⟩⟩⟩⟩⟩⟩⟩⟩⟩⟩⟩⟩⟩⟩⟩⟩⟩⟩⟩⟩⟩⟩⟩⟩⟩⟩⟩⟩⟩⟩⟩⟩⟩⟩⟩⟩⟩⟩⟩⟩⟩⟩⟩⟩⟩⟩⟩⟩⟩⟩⟩⟩⟩⟩⟩⟩⟩⟩⟩⟩⟩⟩⟩⟩⟩⟩⟩⟩⟩⟩⟩⟩⟩⟩⟩⟩⟩⟩⟩⟩⟩⟩⟩⟩⟩⟩⟩⟩⟩⟩⟩⟩⟩⟩⟩⟩⟩⟩⟩⟩⟩⟩⟩⟩⟩⟩⟩⟩⟩⟩⟩⟩⟩⟩⟩⟩⟩⟩⟩⟩⟩⟩⟩⟩⟩⟩⟩⟩⟩⟩⟩⟩⟩⟩⟩⟩⟩⟩⟩⟩⟩⟩⟩⟩⟩⟩⟩⟩⟩⟩⟩⟩⟩⟩⟩⟩⟩⟩⟩⟩⟩⟩⟩⟩⟩⟩⟩⟩⟩⟩⟩⟩⟩⟩⟩⟩⟩⟩⟩⟩⟩⟩⟩⟩⟩⟩⟩⟩⟩⟩⟩⟩⟩⟩⟩⟩⟩⟩⟩⟩⟩⟩⟩⟩⟩⟩⟩⟩⟩⟩⟩⟩⟩⟩⟩⟩⟩⟩⟩⟩⟩⟩⟩⟩⟩⟩⟩⟩⟩⟩⟩⟩⟩⟩⟩⟩⟩⟩⟩⟩⟩⟩⟩⟩⟩⟩⟩⟩⟩⟩⟩⟩⟩⟩⟩⟩⟩⟩⟩⟩⟩⟩⟩⟩⟩⟩⟩⟩⟩⟩⟩⟩⟩⟩⟩⟩⟩⟩⟩⟩⟩⟩⟩⟩⟩⟩⟩⟩⟩⟩⟩⟩⟩⟩⟩⟩⟩⟩⟩⟩⟩⟩⟩⟩⟩⟩⟩⟩⟩⟩⟩⟩⟩⟩⟩⟩⟩⟩⟩⟩⟩)
theorem mixed : Tryz.prog.follows .mixedOrders = true := by kernel_rfl
end Go.Proofs.YtogjajjdaoihdaaGreatDoor

namespace Go.Proofs.YtogjajjdaoihdaaGreatDoor
set_option maxRecDepth 20000
open Go Ev

abbrev encI (x : Int) : List Value := [.int .i64 x]
theorem Ev.St.fresh {w0 w : World} {H : List Ent} (h : St w0 No w H) (i : Nat) {b : Nat} {t : TypeId} {cs : List Value} (hi : H[i]? = some (Ev.blk b t cs)) : w0.heap.size ≤ b := by
 rcases (h.may _ (List.mem_of_getElem? hi) b (by simp [Ev.blk])).1 with h | h
 · exact h.elim
 · exact h
def errV (E : Nat → Addr) : Nat → Value
 | 0 => .nilIface
 | k + 1 => .iface 438 (.pointer (some (E (k + 1))))

def gErr : Nat → Nat
 | 1 => 1
 | 2 => 0
 | 3 => 2
 | 4 => 3
 | 5 => 4
 | 6 => 5
 | 7 => 6
 | 8 => 7
 | 9 => 8
 | 10 => 9
 | _ => 10

def errRow {H : Type} : Nat → String × DataW H
 | 1 => ("twinrampart/api.ErrText", .iface "*errors.errorString" (.ptr (.agg [.lit (.string [116, 119, 105, 110, 114, 97, 109, 112, 97, 114, 116, 58, 32, 116, 101, 120, 116])])))
 | 2 => ("twinrampart/api.ErrBound", .iface "*errors.errorString" (.ptr (.agg [.lit (.string [116, 119, 105, 110, 114, 97, 109, 112, 97, 114, 116, 58, 32, 98, 111, 117, 110, 100])])))
 | 3 => ("twinrampart/api.ErrShape", .iface "*errors.errorString" (.ptr (.agg [.lit (.string [116, 119, 105, 110, 114, 97, 109, 112, 97, 114, 116, 58, 32, 115, 104, 97, 112, 101])])))
 | 4 => ("twinrampart/api.ErrNone", .iface "*errors.errorString" (.ptr (.agg [.lit (.string [116, 119, 105, 110, 114, 97, 109, 112, 97, 114, 116, 58, 32, 110, 111, 110, 101])])))
 | 5 => ("twinrampart/api.ErrExist", .iface "*errors.errorString" (.ptr (.agg [.lit (.string [116, 119, 105, 110, 114, 97, 109, 112, 97, 114, 116, 58, 32, 101, 120, 105, 115, 116])])))
 | 6 => ("twinrampart/api.ErrFull", .iface "*errors.errorString" (.ptr (.agg [.lit (.string [116, 119, 105, 110, 114, 97, 109, 112, 97, 114, 116, 58, 32, 102, 117, 108, 108])])))
 | 7 => ("twinrampart/api.ErrOff", .iface "*errors.errorString" (.ptr (.agg [.lit (.string [116, 119, 105, 110, 114, 97, 109, 112, 97, 114, 116, 58, 32, 111, 102, 102])])))
 | 8 => ("twinrampart/api.ErrDeny", .iface "*errors.errorString" (.ptr (.agg [.lit (.string [116, 119, 105, 110, 114, 97, 109, 112, 97, 114, 116, 58, 32, 100, 101, 110, 121])])))
 | 9 => ("twinrampart/api.ErrState", .iface "*errors.errorString" (.ptr (.agg [.lit (.string [116, 119, 105, 110, 114, 97, 109, 112, 97, 114, 116, 58, 32, 115, 116, 97, 116, 101])])))
 | 10 => ("twinrampart/api.ErrOld", .iface "*errors.errorString" (.ptr (.agg [.lit (.string [116, 119, 105, 110, 114, 97, 109, 112, 97, 114, 116, 58, 32, 111, 108, 100])])))
 | _ => ("twinrampart/api.ErrHeld", .iface "*errors.errorString" (.ptr (.agg [.lit (.string [116, 119, 105, 110, 114, 97, 109, 112, 97, 114, 116, 58, 32, 104, 101, 108, 100])])))

theorem errRow_named (k : Nat) : Tryz.prog.globalNamed (errRow (H := Unit) k).1 = some (gErr k) ∧ (Tryz.prog.globals[gErr k]?).map (·.type) = some 25 := by
 unfold errRow gErr
 split <;> exact ⟨by kernel_rfl, by kernel_rfl⟩

theorem errRow_form (k : Nat) : ∃ n text, errRow (H := Unit) k = (n, .iface "*errors.errorString" (.ptr (.agg [.lit (.string text)]))) := by
 unfold errRow
 split <;> exact ⟨_, _, rfl⟩

theorem errStar : "*" ++ "errors.errorString" = "*errors.errorString" := by decide
theorem errStr_only (u : TypeId) (h : Tryz.prog.typeName? 3 u = some "*errors.errorString") : u = 438 :=
 typeName_ptr_named (nm := "errors.errorString") (by rw [errStar]; kernel_rfl) (by kernel_rfl) (by decide) u (by rw [errStar]; exact h)

structure Errs (w : World) (E : Nat → Addr) (n : Nat) (ks : List Nat) : Prop where
 at_ : ∀ k, ks.contains k = true → w.cell? ⟨gErr k, 0, none⟩ = some (.iface 438 (.pointer (some (E k))))
 lt : ∀ k, ks.contains k = true → gErr k < n
 row : ∀ k, ks.contains k = true → (∃ c t, w.heap[(E k).block]? = some (.cells c t (0, 0))) ∧ (E k).block < n
 inj : ∀ j k, ks.contains j = true → ks.contains k = true → j ≠ k → E j ≠ E k

theorem Errs.ext {w w' : World} {E : Nat → Addr} {n : Nat} {ks : List Nat} {S : Nat → Prop} (h : Errs w E n ks) (hx : Ext S w w') (hS : ∀ b, S b → n ≤ b) : Errs w' E n ks :=
 ⟨fun k hk => hx.cell (h.at_ k hk) (fun hs => by have := hS _ hs; have := h.lt k hk; omega), h.lt, fun k hk => by
   obtain ⟨⟨c, t, hc⟩, hb⟩ := h.row k hk
   refine ⟨⟨c, t, ?_⟩, hb⟩
   rw [hx.block _ (Array.getElem?_eq_some_iff.1 hc).1 (fun hs => by have := hS _ hs; omega)]
   exact hc, h.inj⟩
theorem Errs.sub {w : World} {E : Nat → Addr} {n : Nat} {ks ks' : List Nat} (h : Errs w E n ks) (hs : ks'.all (fun k => ks.contains k) = true) : Errs w E n ks' := by
 have key : ∀ k, ks'.contains k = true → ks.contains k = true := fun k hk => List.all_eq_true.1 hs k (by simpa using hk)
 exact ⟨fun k hk => h.at_ k (key k hk), fun k hk => h.lt k (key k hk), fun k hk => h.row k (key k hk), fun j k hj hk => h.inj j k (key j hj) (key k hk)⟩
theorem Errs.ne {w : World} {E : Nat → Addr} {n : Nat} {ks : List Nat} (h : Errs w E n ks) (k : Nat) (hk : ks.contains k = true) {b : Nat} (hb : n ≤ b) : gErr k ≠ b := by
 have := h.lt k hk
 omega

theorem laidVars_sub {P : Program} {w : World} {l l' : List (String × DataW Unit)} (hs : l'.Sublist l) : ∀ {ps : List MemPlace}, DataW.LaidVars P w l ps → ∃ ps', DataW.LaidVars P w l' ps' ∧ ps'.Sublist ps := by
 induction hs with
 | slnil => exact fun {ps} h => ⟨ps, h, List.Sublist.refl _⟩
 | cons x hs ih =>
   intro ps h
   obtain ⟨n, d⟩ := x
   obtain ⟨g, t, cs, fuel, p, q, e1, e2, e3, e4, hr, rfl⟩ := h
   obtain ⟨q', hq, hs⟩ := ih hr
   exact ⟨q', hq, hs.trans (List.sublist_append_right _ _)⟩
 | cons_cons x hs ih =>
   intro ps h
   obtain ⟨n, d⟩ := x
   obtain ⟨g, t, cs, fuel, p, q, e1, e2, e3, e4, hr, rfl⟩ := h
   obtain ⟨q', hq, hs⟩ := ih hr
   exact ⟨_, ⟨g, t, cs, fuel, p, q', e1, e2, e3, e4, hq, rfl⟩, List.Sublist.append (List.Sublist.refl _) hs⟩
theorem laidMet_sub {P : Program} {w : World} {l l' : List (String × DataW Unit)} (hs : l'.Sublist l) (h : laidMet P l w) : laidMet P l' w := by
 obtain ⟨ps, hl, hnd, hrows⟩ := h
 obtain ⟨ps', hl', hs⟩ := laidVars_sub hs hl
 exact ⟨ps', hl', hnd.sublist hs, fun b off hp => hrows b off (hs.subset hp)⟩
theorem pair_sub {α : Type} {x y : α} (hne : x ≠ y) {l : List α} (hx : x ∈ l) (hy : y ∈ l) : [x, y].Sublist l ∨ [y, x].Sublist l := by
 induction l with
 | nil => cases hx
 | cons z l ih =>
   rcases List.mem_cons.1 hx with h1 | h1
   · rcases List.mem_cons.1 hy with h2 | h2
     · exact absurd (h1.trans h2.symm) hne
     · subst h1
       exact .inl (.cons_cons _ (List.singleton_sublist.2 h2))
   · rcases List.mem_cons.1 hy with h2 | h2
     · subst h2
       exact .inr (.cons_cons _ (List.singleton_sublist.2 h1))
     · rcases ih h1 h2 with h | h
       · exact .inl (.cons _ h)
       · exact .inr (.cons _ h)

theorem gErr_inj (j : Nat) (hj : j < 12) (k : Nat) (hk : k < 12) (j0 : 1 ≤ j) (k0 : 1 ≤ k) (hne : j ≠ k) : gErr j ≠ gErr k := by
 have h : ((List.range 12).all fun j => (List.range 12).all fun k => Nat.ble j 0 || Nat.ble k 0 || Nat.beq j k || !Nat.beq (gErr j) (gErr k)) = true := by rfl
 have h1 := List.all_eq_true.1 (List.all_eq_true.1 h j (List.mem_range.2 hj)) k (List.mem_range.2 hk)
 intro he
 rw [he] at h1
 simp at h1
 omega

theorem sentinel1 {P : Program} {n nm : String} {text : List UInt8} {W : World} {g : Nat} {ti tp te ts : TypeId} {ms : Array (String × TypeId)} {f : Field}
   (h : laidMet P [(n, .iface nm (.ptr (.agg [.lit (.string text)])))] W)
   (hg : P.globalNamed n = some g) (ht : (P.globals[g]?).map (·.type) = some ti) (hi : P.underlying ti = some (.interface ms)) (hrow : ∀ u, P.typeName? 3 u = some nm → u = tp)
   (hp : P.underlying tp = some (.pointer te)) (he : P.underlying te = some (.struct #[f])) (hft : f.type = ts) (hfo : f.offset = 0) (hs : P.underlying ts = some .string) (hc : P.cellsOf te = 1) (hcs : P.cellsOf ts = 1) :
   ∃ (a : Addr), W.cell? ⟨g, 0, none⟩ = some (.iface tp (.pointer (some a))) ∧ (∃ c t, W.heap[a.block]? = some (.cells c t (0, 0))) := by
 obtain ⟨ps, ⟨g0, t0, cs0, f0, p0, q0, hg0, ht0, hv0, hd0, _, e0⟩, _, hrows⟩ := h
 obtain rfl := Option.some.inj (hg.symm.trans hg0)
 obtain rfl := Option.some.inj (ht.symm.trans ht0)
 subst e0
 obtain ⟨l0⟩ := cs0
 have ok0 : ∀ u v, l0 = [.iface u v] → Value.okWide P W .any 0 u v := fun u v e => by
   subst e
   exact (hrows g 0 (by simp [MemPlace.row])).2 u v (by simpa using World.var?_cell hg0 hv0 0)
 obtain ⟨a0, s0, rfl, hc0, hs0, hz0, rfl⟩ := errorString_of_trod hi hrow hp he hft hfo hs hc hcs hd0 ok0
 refine ⟨a0, by simpa using World.var?_cell hg0 hv0 0, ?_⟩
 obtain ⟨c, t, hb⟩ := (hrows a0.block a0.off (by simp [MemPlace.row])).1
 exact ⟨c, t, hb⟩

theorem errs_of {L : List (String × DataW Unit)} {W : World} (ks : List Nat) (hks : ks.all (fun k => decide (1 ≤ k ∧ k < 12)) = true) (hl : laidMetH Tryz.prog L W) (hm : ∀ k ∈ ks, errRow k ∈ L) : ∃ E, Errs W E W.heap.size ks := by
 have h1 := (laidMetH_iff.1 hl).1
 have hin : ∀ k, k ∈ ks → errRow (H := Unit) k ∈ L.filter fun x => x.2.handleName?.isNone := fun k hk => by
   obtain ⟨n, text, hf⟩ := errRow_form k
   refine List.mem_filter.2 ⟨hm k hk, ?_⟩
   rw [hf]
   rfl
 have key : ∀ k, ∃ a : Addr, k ∈ ks → W.cell? ⟨gErr k, 0, none⟩ = some (.iface 438 (.pointer (some a))) ∧ (∃ c t, W.heap[a.block]? = some (.cells c t (0, 0))) := by
   intro k
   by_cases hk : k ∈ ks
   · have hk2 := hin k hk
     obtain ⟨hg, ht⟩ := errRow_named k
     obtain ⟨n, text, hf⟩ := errRow_form k
     rw [hf] at hk2 hg
     have h2 := laidMet_sub (List.singleton_sublist.2 hk2) h1
     obtain ⟨a, h3, h4⟩ := sentinel1 (P := Tryz.prog) h2 hg ht Tryz.underlying25 errStr_only Tryz.underlying438 Tryz.underlying440 rfl rfl Tryz.underlying9 (by kernel_rfl) (by kernel_rfl)
     exact ⟨a, fun _ => ⟨h3, h4⟩⟩
   · exact ⟨⟨0, 0, none⟩, fun h => absurd h hk⟩
 have spec : ∀ k, ks.contains k = true → _ := fun k hk => (key k).choose_spec (by simpa using hk)
 refine ⟨fun k => (key k).choose, fun k hk => (spec k hk).1, fun k hk => ?_, fun k hk => ?_, fun j k hj hk hne => ?_⟩
 · exact cell_lt (spec k hk).1
 · obtain ⟨_, c, t, hc⟩ := spec k hk
   exact ⟨⟨c, t, hc⟩, (Array.getElem?_eq_some_iff.1 hc).1⟩
 · have bj := of_decide_eq_true (List.all_eq_true.1 hks j (by simpa using hj))
   have bk := of_decide_eq_true (List.all_eq_true.1 hks k (by simpa using hk))
   have gne := gErr_inj j bj.2 k bk.2 bj.1 bk.1 hne
   have two : ∀ j k, ks.contains j = true → ks.contains k = true → [errRow (H := Unit) j, errRow k].Sublist (L.filter fun x => x.2.handleName?.isNone) → (key j).choose ≠ (key k).choose := by
     intro j k hj hk hsub
     have h2 := laidMet_sub hsub h1
     obtain ⟨hgj, htj⟩ := errRow_named j
     obtain ⟨hgk, htk⟩ := errRow_named k
     obtain ⟨nj, textj, hfj⟩ := errRow_form j
     obtain ⟨nk, textk, hfk⟩ := errRow_form k
     rw [hfj] at hgj
     rw [hfk] at hgk
     rw [hfj, hfk] at h2
     obtain ⟨a0, a1, _, _, _, _, _, _, v0, v1, _, _, _, _, _, _, hne2, _⟩ := laid_sentinels2 (P := Tryz.prog) h2 hgj htj hgk htk Tryz.underlying25 errStr_only Tryz.underlying438 Tryz.underlying440 rfl rfl Tryz.underlying9 (by kernel_rfl) (by kernel_rfl)
     have c0 : W.cell? ⟨gErr j, 0, none⟩ = some (.iface 438 (.pointer (some a0))) := by simpa using World.var?_cell hgj v0 0
     have c1 : W.cell? ⟨gErr k, 0, none⟩ = some (.iface 438 (.pointer (some a1))) := by simpa using World.var?_cell hgk v1 0
     have d0 := (spec j hj).1
     have d1 := (spec k hk).1
     have d0 := c0.symm.trans d0
     have d1 := c1.symm.trans d1
     simp only [Option.some.injEq, Value.iface.injEq, Value.pointer.injEq, true_and] at d0 d1
     intro he
     exact hne2 (d0.trans (he.trans d1.symm))
   have hrne : errRow (H := Unit) j ≠ errRow k := by
     intro he
     have a := (errRow_named j).1
     rw [he, (errRow_named k).1] at a
     exact gne (Option.some.inj a).symm
   rcases pair_sub hrne (hin j (by simpa using hj)) (hin k (by simpa using hk)) with h | h
   · exact two j k hj hk h
   · exact (two k j hk hj h).symm
end Go.Proofs.YtogjajjdaoihdaaGreatDoor
