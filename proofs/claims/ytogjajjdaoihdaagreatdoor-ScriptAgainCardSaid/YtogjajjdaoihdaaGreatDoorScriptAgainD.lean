/-
  Texts of this claim, joined: Role, Number, Sum, Byt, Cell, CellP, CellL, Packet, Policy, PolicyB, NodeS, Code, As, Fault, EvQ, Node.
-/
import Derived.Test.YtogjajjdaoihdaaGreatDoorScriptAgainC
import Derived.Laws.Externs
import Derived.LaidEql
import Derived.Stop.Asserts

namespace Go.Proofs.YtogjajjdaoihdaaGreatDoor
set_option maxRecDepth 20000
open Go Ev

structure RoleS where
 node : Int
 epoch : Int
 silence : Int
 active : Bool

def encRole (r : RoleS) : List Value := [.int .i64 r.node, .int .i64 r.epoch, .int .i64 r.silence, .bool r.active]

structure RoleS.Ok (r : RoleS) : Prop where
 n0 : r.node = 0 ∨ r.node = 1
 e0 : 0 ≤ r.epoch
 e1 : r.epoch ≤ 1073741824
 s0 : 0 ≤ r.silence
 s1 : r.silence ≤ 1000000000000

def RoleS.next (r : RoleS) : Int × Nat :=
 let e := if (r.epoch + 1).tmod 2 ≠ r.node then r.epoch + 1 + 1 else r.epoch + 1
 if e > 1073741824 then (0, 2) else (e, 0)
def RoleS.tick (r : RoleS) : Bool × RoleS := if r.active then (false, r) else (decide (r.silence + 1 > 9), { r with silence := r.silence + 1 })
def RoleS.claim (r : RoleS) (e : Int) : Nat × RoleS :=
 if r.active then (11, r) else if r.next.2 ≠ 0 then (r.next.2, r) else if r.next.1 ≠ e then (3, r) else (0, { r with active := true, epoch := e })
def RoleS.hear (r : RoleS) (e : Int) : Bool × RoleS :=
 if e < 0 ∨ e > 1073741824 then (false, r) else
 let d := if e > r.epoch then r.active else false
 let r1 := if e > r.epoch then { r with epoch := e, active := false } else r
 (d, if r1.active = false ∧ e = r1.epoch then { r1 with silence := 0 } else r1)

section
variable {w : World} {b : Nat} {r : RoleS}

theorem role_active (hb : Blk w b 335 (encRole r)) : CallC Tryz.prog 157 #[.pointer (some ⟨b, 0, none⟩)] w fun v w' => v = .bool r.active ∧ w = w' := by
 refine fn_intro tabOk Tryz.func157 (by kernel_rfl) rfl Tryz.ntmps157 (lbO rfl) ?_
 have hS := (St.start w (· = b)).add (blk_local b _ _) hb (by simp [blk]; exact hb.lt) (by simp)
 repeat' ((conv => whnf); first | refine RetC.mk ?_ | refine nzO ?_ | refine rgO ?_ | refine ixO ?_ | refine hS.ld 0 rfl rfl ?_ | (first|apply brD|apply brND|apply brN|apply brI) <;> (intro))
 exact ⟨rfl, rfl⟩

theorem role_epoch (hb : Blk w b 335 (encRole r)) : CallC Tryz.prog 167 #[.pointer (some ⟨b, 0, none⟩)] w fun v w' => v = .int .i64 r.epoch ∧ w = w' := by
 refine fn_intro tabOk Tryz.func167 (by kernel_rfl) rfl Tryz.ntmps167 (lbO rfl) ?_
 have hS := (St.start w (· = b)).add (blk_local b _ _) hb (by simp [blk]; exact hb.lt) (by simp)
 repeat' ((conv => whnf); first | refine RetC.mk ?_ | refine nzO ?_ | refine rgO ?_ | refine ixO ?_ | refine hS.ld 0 rfl rfl ?_ | (first|apply brD|apply brND|apply brN|apply brI) <;> (intro))
 exact ⟨rfl, rfl⟩

theorem role_tick (hb : Blk w b 335 (encRole r)) (hr : r.Ok) : CallC Tryz.prog 319 #[.pointer (some ⟨b, 0, none⟩)] w fun v w' => v = .bool r.tick.1 ∧ Ext (· = b) w w' ∧ Blk w' b 335 (encRole r.tick.2) := by
 have h1 := hr.s1
 have h0 := hr.s0
 refine fn_intro tabOk Tryz.func319 (by kernel_rfl) rfl Tryz.ntmps319 (lbO rfl) ?_
 have hS := (St.start w (· = b)).add (blk_local b _ _) hb (by simp [blk]; exact hb.lt) (by simp)
 conv=>whnf
 refine hS.ld 0 rfl rfl ?_
 conv=>whnf
 refine brI (fun ha => ?_) (fun ha => ?_)
 · repeat' ((conv => whnf); first | refine RetC.mk ?_ | refine nzO ?_ | refine rgO ?_ | refine ixO ?_ | (first|apply brD|apply brND|apply brN|apply brI) <;> (intro))
   have e : r.tick = (false, r) := by simp [RoleS.tick, ha]
   rw [e]
   exact ⟨rfl, hS.ext, hS.blk 0 rfl⟩
 · repeat' ((conv => whnf); first | refine RetC.mk ?_ | refine nzO ?_ | refine rgO ?_ | refine ixO ?_ | refine hS.ld 0 rfl rfl ?_ | refine hS.st 0 rfl (lbO rfl) rfl (fun w' hS => ?_) | (first|apply brD|apply brND|apply brN|apply brI) <;> (intro))
   have e : r.tick = (decide (r.silence + 1 > 9), { r with silence := r.silence + 1 }) := by simp [RoleS.tick, ha]
   rw [e]
   exact ⟨rfl, hS.ext, hS.blk 0 rfl⟩

theorem role_next {E : Nat → Addr} (hb : Blk w b 335 (encRole r)) (hr : r.Ok) {n : Nat} (hE : Errs w E n [2]) :
   CallC Tryz.prog 339 #[.pointer (some ⟨b, 0, none⟩)] w fun v w' => v = .tuple #[.int .i64 r.next.1, errV E r.next.2] ∧ Ext No w w' := by
 have h1 := hr.e1
 have h0 := hr.e0
 refine fn_intro tabOk Tryz.func339 (by kernel_rfl) rfl Tryz.ntmps339 (lbO rfl) ?_
 have hS := St.start w No
 repeat' ((conv => whnf); first | refine hS.ldr (show w.cell? ⟨b, 0 + 0, none⟩ = _ from hb.cell _) id ?_ | refine hS.ldr (show w.cell? ⟨b, 0 + 1, none⟩ = _ from hb.cell _) id ?_ | (refine drawS tabOk mixed [] No [0, 1, 2] (by kernel_rfl) ?_; rintro w1 rfl; replace hS := hS.drew) | refine hS.ldrF (hE.at_ 2 rfl) id id ?_ | refine RetC.mk ?_ | refine nzO ?_ | refine rgO ?_ | refine brD ?_ ?_ <;> (intro) | refine brND ?_ ?_ <;> (intro))
 all_goals refine ⟨?_, hS.ext⟩
 all_goals clear hb hE hS
 all_goals unfold RoleS.next; dsimp only
 all_goals ((repeat' split) <;> first | rfl | (exfalso; omega) | (simp_all [over, cellsL]; done) | (simp_all [over, cellsL]; omega) | trace_state)

theorem role_claim {E : Nat → Addr} (e : Int) (hb : Blk w b 335 (encRole r)) (hr : r.Ok) {n : Nat} (hE : Errs w E n [2, 3, 11]) (hn : n ≤ b) :
   CallC Tryz.prog 340 #[.pointer (some ⟨b, 0, none⟩), .int .i64 e] w fun v w' => v = errV E (r.claim e).1 ∧ Ext (· = b) w w' ∧ Blk w' b 335 (encRole (r.claim e).2) := by
 refine fn_intro tabOk Tryz.func340 (by kernel_rfl) rfl Tryz.ntmps340 (lbO rfl) ?_
 have hS := (St.start w (· = b)).add (blk_local b _ _) hb (by simp [blk]; exact hb.lt) (by simp)
 conv=>whnf
 have g2 := hE.lt 2 rfl
 have g3 := hE.lt 3 rfl
 have g11 := hE.lt 11 rfl
 simp only [gErr] at g2 g3 g11
 refine (role_next hb hr (hE.sub rfl)).mono ?_
 rintro v w' ⟨rfl, hx⟩
 replace hS := hS.no hx
 obtain ⟨x, k, hk, hk2⟩ : ∃ x k, r.next = (x, k) ∧ (k = 0 ∨ k = 2) := by
   refine ⟨r.next.1, r.next.2, rfl, ?_⟩
   unfold RoleS.next
   dsimp only
   split <;> split <;> simp
 rw [hk]
 rcases hk2 with rfl | rfl
 all_goals repeat' ((conv => whnf); first | refine RetC.mk ?_ | refine nzO ?_ | refine rgO ?_ | refine ixO ?_ | refine hS.ld 0 rfl rfl ?_ | refine hS.ldr (hE.at_ 2 rfl) (hE.ne 2 rfl hn) ?_ | refine hS.ldr (hE.at_ 3 rfl) (hE.ne 3 rfl hn) ?_ | refine hS.ldr (hE.at_ 11 rfl) (hE.ne 11 rfl hn) ?_ | refine hS.st 0 rfl (lbO rfl) rfl (fun w' hS => ?_) | (first|apply brD|apply brND|apply brN|apply brI) <;> (intro))
 all_goals have hB := hS.blk 0 rfl
 all_goals refine ⟨?_, hS.ext, hB.to ?_⟩
 all_goals clear hB hS
 all_goals unfold RoleS.claim; rw [hk]; dsimp only [encRole]
 all_goals ((repeat' split) <;> first | rfl | (exfalso; omega) | (simp_all [over, cellsL]; done) | (simp_all [over, cellsL]; omega) | trace_state)

theorem role_hear (e : Int) (hb : Blk w b 335 (encRole r)) : CallC Tryz.prog 301 #[.pointer (some ⟨b, 0, none⟩), .int .i64 e] w fun v w' => v = .bool (r.hear e).1 ∧ Ext (· = b) w w' ∧ Blk w' b 335 (encRole (r.hear e).2) := by
 refine fn_intro tabOk Tryz.func301 (by kernel_rfl) rfl Tryz.ntmps301 (lbO rfl) ?_
 have hS := (St.start w (· = b)).add (blk_local b _ _) hb (by simp [blk]; exact hb.lt) (by simp)
 repeat' ((conv => whnf); first | refine RetC.mk ?_ | refine nzO ?_ | refine rgO ?_ | refine ixO ?_ | refine hS.ld 0 rfl rfl ?_ | refine hS.st 0 rfl (lbO rfl) rfl (fun w' hS => ?_) | (first|apply brD|apply brND|apply brN|apply brI) <;> (intro))
 all_goals have hB := hS.blk 0 rfl
 all_goals refine ⟨?_, hS.ext, hB.to ?_⟩
 all_goals clear hB hS hb
 all_goals unfold RoleS.hear; dsimp only [encRole]
 all_goals ((repeat' split) <;> first | rfl | (exfalso; omega) | (simp_all [over, cellsL]; done) | (simp_all [over, cellsL]; omega) | trace_state)

theorem role_new (a e : Int) (w : World) (ha : a = 0 ∨ a = 1) (h0 : 0 ≤ e) (h1 : e ≤ 1073741824) : CallC Tryz.prog 129 #[.int .i64 a, .int .i64 e] w fun v w' =>
   ∃ b, v = .tuple #[.pointer (some ⟨b, 0, none⟩), .nilIface] ∧ w.heap.size ≤ b ∧ Ext No w w' ∧ Blk w' b 335 (encRole ⟨a, e, 0, false⟩) := by
 refine fn_intro tabOk Tryz.func129 (by kernel_rfl) rfl Tryz.ntmps129 (lbO rfl) ?_
 have hS := St.start w No
 repeat' ((conv => whnf); first | refine hS.new (fun b w' hb hS => ?_) | refine RetC.mk ?_ | refine brD ?_ ?_ <;> (intro) | refine brND ?_ ?_ <;> (intro))
 all_goals first | (exfalso; omega) | exact ⟨_, rfl, hb, hS.ext, hS.blk 0 rfl⟩

end
end Go.Proofs.YtogjajjdaoihdaaGreatDoor

namespace Go.Proofs.YtogjajjdaoihdaaGreatDoor
set_option maxRecDepth 20000
open Go Ev

def numK (n m i : Nat) : List UInt8 := (List.range m).map fun j => if m ≤ j + i then UInt8.ofNat (n / 256 ^ (m - 1 - j)) else 0
def numB (n m : Nat) : List UInt8 := (List.range m).map fun j => UInt8.ofNat (n / 256 ^ (m - 1 - j))
theorem numK_len (n m i : Nat) : (numK n m i).length = m := by simp [numK]
theorem numB_len (n m : Nat) : (numB n m).length = m := by simp [numB]
theorem numK_zero (n m : Nat) : numK n m 0 = List.replicate m 0 := by
 apply List.ext_getElem?
 intro j
 by_cases h : j < m
 · have : ¬ m ≤ j := by omega
   simp [numK, h, this]
 · simp [numK, h]
theorem numK_full (n m : Nat) : numK n m m = numB n m := by
 unfold numK numB
 apply List.map_congr_left
 intro j _
 rw [if_pos (by omega)]
theorem numK_at {n m i j : Nat} (h : j < m) : (numK n m i)[j]? = some (if m ≤ j + i then UInt8.ofNat (n / 256 ^ (m - 1 - j)) else 0) := by simp [numK, h]
theorem numK_set {n m i : Nat} (h : i < m) : (numK n m i).set (m - 1 - i) (UInt8.ofNat (n / 256 ^ i)) = numK n m (i + 1) := by
 apply List.ext_getElem?
 intro j
 rw [List.getElem?_set]
 by_cases e : m - 1 - i = j
 · subst e
   rw [if_pos rfl, if_pos (by rw [numK_len]; omega), numK_at (by omega), if_pos (by omega), show m - 1 - (m - 1 - i) = i by omega]
 · rw [if_neg e]
   by_cases hj : j < m
   · rw [numK_at hj, numK_at hj]
     by_cases h1 : m ≤ j + i
     · rw [if_pos h1, if_pos (by omega)]
     · rw [if_neg h1, if_neg (by omega)]
   · rw [List.getElem?_eq_none (by rw [numK_len]; omega), List.getElem?_eq_none (by rw [numK_len]; omega)]
theorem byte_of (q : Nat) : ((UInt8.ofNat q).toNat : Int) = (q : Int) % 256 := by
 rw [UInt8.toNat_ofNat']
 omega

theorem own_cells {α : Type} {w : World} {sz n c g : Nat} {e : TypeId} {enc : α → List Value} (C : Codec sz enc) {xs : List α} (h : (ownL e sz enc (.slice (some ⟨g, 0, none⟩) n c) xs).holds w) : CellsAt w g 0 (xs.flatMap enc) := by
 obtain ⟨_, ⟨h1, _⟩ | ⟨g', cap, cur, h1, h2, h3, h4, h5, h6, h7⟩⟩ := h
 · cases h1
 · cases h1
   intro j v hj
   have hlt := (List.getElem?_eq_some_iff.1 hj).1
   rw [flat_len C] at hlt
   rw [← h7, List.getElem?_take_of_lt (by omega)] at hj
   simp only [World.cell?, h3, Nat.zero_add]
   simpa using hj
theorem rep_flat : ∀ m : Nat, List.replicate m (Value.int .u8 0) = (List.replicate m (0 : UInt8)).flatMap encU
 | 0 => rfl
 | m + 1 => by rw [List.replicate_succ, List.replicate_succ, List.flatMap_cons, ← rep_flat m]; rfl
theorem shr_byte (n i : Nat) : IntKind.u8.wrap ((n : Int) / 2 ^ (8 * i)) = ((UInt8.ofNat (n / 256 ^ i)).toNat : Int) := by
 rw [IntKind.wrap_u8', byte_of, Int.pow_mul]
 have : ((2 : Int) ^ 8) ^ i = ((256 ^ i : Nat) : Int) := by simp
 rw [this, ← Int.natCast_ediv]
theorem number_ok (n m : Nat) (hm : m ≤ 7) (_hn : n < 9223372036854775808) (w : World) :
   CallC Tryz.prog 281 #[.int .i64 (n : Int), .int .i64 (m : Int)] w fun v w' => v = .string (bs (numB n m)) ∧ Ext No w w' := by
 refine fn_intro tabOk Tryz.func281 (by kernel_rfl) rfl Tryz.ntmps281 (lbO rfl) ?_
 have hS := St.start w No
 conv=>whnf
 refine hS.mkSlice (n := m) Tryz.underlying192 (sz := 1) (bytes := 1) (by kernel_rfl) (z := .int .u8 0) (by kernel_rfl) (by omega) (by omega) (by unfold maxLen; omega) (enc := encU) (xs := numK n m 0) (numK_len _ _ _) (by rw [numK_zero, show (Value.int .u8 0).cells = #[.int .u8 0] from rfl, made_rep, Nat.mul_one]; exact rep_flat m) (fun g w' hg hS => ?_)
 conv=>whnf
 refine loopR tabOk (fun σ w' q => ∃ i : Nat, σ = [(10, .int .i64 i), (9, .int .i64 m), (5, .slice (some ⟨g, 0, none⟩) m m), (1, .int .i64 m), (0, .int .i64 n)] ∧ q = m - i ∧ i ≤ m ∧ St w No w' [ownL 5 1 encU (.slice (some ⟨g, 0, none⟩) m m) (numK n m i)])
   (σ' := [(10, .int .i64 ((0 : Nat) : Int)), (9, .int .i64 m), (5, .slice (some ⟨g, 0, none⟩) m m), (1, .int .i64 m), (0, .int .i64 n)]) (n := m) ⟨rfl, rfl, rfl, rfl, rfl, trivial⟩ ⟨0, rfl, rfl, Nat.zero_le _, hS⟩ ?_
 clear hS
 rintro _ w1 q ⟨i, rfl, rfl, hi, hS⟩
 conv=>whnf
 refine brD (fun h3 => ?_) (fun h3 => ?_)
 · have hi2 : i < m := by omega
   repeat' ((conv => whnf); first | refine RetC.mk ?_ | refine nzO ?_ | refine rgO ?_ | refine ixO ?_ | refine rgO ?_ | (first|apply brD|apply brND|apply brN|apply brI) <;> (intro))
   refine shrC (n := 8 * i) (by omega) (by show 8 * i ≤ 64; omega) ?_
   conv=>whnf
   refine convI (kd := .u8) (by kernel_rfl) Tryz.underlying5 (shr_byte n i) ?_
   conv=>whnf
   refine ixO ?_
   conv=>whnf
   refine hS.setL codU 0 (k := m - 1 - i) (x := UInt8.ofNat (n / 256 ^ i)) rfl (numK_at (by omega)) (by omega) rfl (fun w' _ hS => ?_)
   rw [numK_set hi2] at hS
   conv=>whnf
   refine rgO ?_
   conv=>whnf
   refine LoopE.mk ⟨_, [(10, .int .i64 ((i + 1 : Nat) : Int)), (9, _), (5, _), (1, _), (0, _)], ?_, ⟨rfl, rfl, rfl, rfl, rfl, trivial⟩, ⟨i + 1, rfl, rfl, by omega, hS⟩⟩
   omega
 · obtain rfl : i = m := by omega
   rw [numK_full] at hS
   obtain ⟨_, _, h0⟩ : ∃ b o, CellsAt w1 g 0 ((numB n i).flatMap encU) := ⟨0, 0, own_cells codU (hS.get 0 rfl)⟩
   conv=>whnf
   refine strC Tryz.underlying192 Tryz.underlying5 Tryz.underlying9 h0 (numB_len _ _) ?_
   repeat' ((conv => whnf); first | refine RetC.mk ?_ | refine nzO ?_ | refine rgO ?_ | refine ixO ?_ | (first|apply brD|apply brND|apply brN|apply brI) <;> (intro))
   exact ⟨rfl, hS.ext⟩

def valB (l : List UInt8) : Nat := l.foldl (fun n b => n * 256 + b.toNat) 0
theorem valB_step {l : List UInt8} {k : Nat} {x : UInt8} (h : l[k]? = some x) : valB (l.take (k + 1)) = valB (l.take k) * 256 + x.toNat := by
 unfold valB
 rw [List.take_add_one, h, List.foldl_append]
 rfl
theorem valB_app (l : List UInt8) (x : UInt8) : valB (l ++ [x]) = valB l * 256 + x.toNat := by
 unfold valB
 rw [List.foldl_append]
 rfl
theorem foldB_lt : ∀ (l : List UInt8) (n c : Nat), n < 256 ^ c → l.foldl (fun n b => n * 256 + b.toNat) n < 256 ^ (c + l.length)
 | [], n, c, h => by simpa using h
 | x :: l, n, c, h => by
   have hx := x.toNat_lt
   have := foldB_lt l (n * 256 + x.toNat) (c + 1) (by rw [Nat.pow_succ]; omega)
   rw [List.foldl_cons, List.length_cons, show c + (l.length + 1) = c + 1 + l.length by omega]
   exact this
theorem valB_lt (l : List UInt8) : valB l < 256 ^ l.length := by
 have := foldB_lt l 0 0 (by simp)
 rwa [Nat.zero_add] at this
theorem or_add {a b : Nat} (hb : b < 256) : a * 256 ||| b = a * 256 + b := by
 have := Nat.shiftLeft_add_eq_or_of_lt (i := 8) (b := b) (by omega) a
 rw [Nat.shiftLeft_eq] at this
 exact this.symm
theorem value_ok (l : List UInt8) (hl : l.length ≤ 7) (w : World) :
   CallC Tryz.prog 220 #[.string (bs l)] w fun v w' => v = .int .i64 (valB l : Nat) ∧ Ext No w w' := by
 refine fn_intro tabOk Tryz.func220 (by kernel_rfl) rfl Tryz.ntmps220 (lbO rfl) ?_
 have hS := St.start w No
 conv=>whnf
 rw [bs_size]
 refine loopR tabOk (fun σ w' q => ∃ i : Nat, σ = [(7, .int .i64 i), (6, .int .i64 (l.length : Nat)), (3, .int .i64 (valB (l.take i) : Nat)), (0, .string (bs l))] ∧ q = l.length - i ∧ i ≤ l.length ∧ St w No w' [])
   (σ' := [(7, .int .i64 ((0 : Nat) : Int)), (6, .int .i64 (l.length : Nat)), (3, .int .i64 ((0 : Nat) : Int)), (0, .string (bs l))]) (n := l.length) ⟨rfl, rfl, rfl, rfl, trivial⟩ ⟨0, rfl, rfl, Nat.zero_le _, hS⟩ ?_
 clear hS
 rintro _ w1 q ⟨i, rfl, rfl, hi, hS⟩
 conv=>whnf
 refine brD (fun h3 => ?_) (fun h3 => ?_)
 · obtain ⟨x, hx⟩ : ∃ x, l[i]? = some x := ⟨_, List.getElem?_eq_getElem (by omega)⟩
   have hst := valB_step hx
   have hlt := valB_lt (l.take i)
   have h7 : 256 ^ (l.take i).length ≤ 256 ^ 6 := Nat.pow_le_pow_right (by omega) (by rw [List.length_take]; omega)
   have hx8 := x.toNat_lt
   generalize valB (l.take i) = v at hst hlt
   have hv : v < 281474976710656 := Nat.lt_of_lt_of_le hlt h7
   conv=>whnf
   refine shlC (n := 8) (m := ((v * 256 : Nat) : Int)) rfl (by decide) (by rw [IntKind.wrap_i64]; omega) ?_
   conv=>whnf
   refine idxS Tryz.underlying9 rfl hx ?_
   conv=>whnf
   refine convI (kd := .i64) (m := (x.toNat : Int)) (by kernel_rfl) Tryz.underlying3 (by rw [IntKind.wrap_i64]; omega) ?_
   conv=>whnf
   refine orC64 (a := v * 256) (by omega) (by omega) ?_
   rw [or_add (by omega), ← hst]
   conv=>whnf
   refine rgO ?_
   conv=>whnf
   refine LoopE.mk ⟨_, [(7, .int .i64 ((i + 1 : Nat) : Int)), (6, _), (3, .int .i64 (valB (l.take (i + 1)) : Nat)), (0, _)], ?_, ⟨rfl, rfl, rfl, rfl, trivial⟩, ⟨i + 1, rfl, rfl, by omega, hS⟩⟩
   omega
 · obtain rfl : i = l.length := by omega
   rw [List.take_length]
   repeat' ((conv => whnf); first | refine RetC.mk ?_ | refine nzO ?_ | refine rgO ?_ | refine ixO ?_ | (first|apply brD|apply brND|apply brN|apply brI) <;> (intro))
   exact ⟨rfl, hS.ext⟩
theorem numB_succ (n m : Nat) : numB n (m + 1) = numB (n / 256) m ++ [UInt8.ofNat n] := by
 unfold numB
 rw [List.range_succ, List.map_append]
 congr 1
 · apply List.map_congr_left
   intro j hj
   have hj := List.mem_range.1 hj
   rw [show m + 1 - 1 - j = (m - 1 - j) + 1 by omega, Nat.pow_succ, Nat.mul_comm, ← Nat.div_div_eq_div_mul]
 · simp
theorem valB_num : ∀ (m n : Nat), valB (numB n m) = n % 256 ^ m
 | 0, n => by simp [numB, valB, Nat.mod_one]
 | m + 1, n => by
   have h : (256 : Nat) ^ (m + 1) = 256 * 256 ^ m := Nat.pow_succ'
   rw [numB_succ, valB_app, valB_num m, UInt8.toNat_ofNat', h, Nat.mod_mul]
   omega
end Go.Proofs.YtogjajjdaoihdaaGreatDoor

namespace Go.Proofs.YtogjajjdaoihdaaGreatDoor
set_option maxRecDepth 20000
open Go Ev

def crcBit (c : Nat) : Nat := c / 2 ^ 1 ^^^ 3988292384 * (c &&& 1)
def crcIt : Nat → Nat → Nat
 | 0, c => c
 | k + 1, c => crcBit (crcIt k c)
def crcByte (c : Nat) (b : UInt8) : Nat := crcIt 8 (c ^^^ b.toNat)
def crcN (l : List UInt8) : Nat := l.foldl crcByte 4294967295
def sumB (l : List UInt8) : Nat := 4294967295 ^^^ crcN l
theorem and1_le (c : Nat) : c &&& 1 ≤ 1 := by
 rw [Nat.and_one_is_mod]
 omega
theorem crcBit_lt {c : Nat} (h : c < 4294967296) : crcBit c < 4294967296 := by
 have h1 := and1_le c
 have : 3988292384 * (c &&& 1) ≤ 3988292384 * 1 := Nat.mul_le_mul_left _ h1
 exact Nat.xor_lt_two_pow (n := 32) (by omega) (by omega)
theorem crcIt_lt {c : Nat} (h : c < 4294967296) : ∀ k, crcIt k c < 4294967296
 | 0 => h
 | k + 1 => crcBit_lt (crcIt_lt h k)
theorem xor_byte {c : Nat} (h : c < 4294967296) (b : UInt8) : c ^^^ b.toNat < 4294967296 := by
 have := b.toNat_lt
 exact Nat.xor_lt_two_pow (n := 32) (by omega) (by omega)
theorem crcByte_lt {c : Nat} (h : c < 4294967296) (b : UInt8) : crcByte c b < 4294967296 := crcIt_lt (xor_byte h b) 8
theorem crcF_lt : ∀ (l : List UInt8) (c : Nat), c < 4294967296 → l.foldl crcByte c < 4294967296
 | [], _, h => h
 | x :: l, c, h => crcF_lt l (crcByte c x) (crcByte_lt h x)
theorem crcN_lt (l : List UInt8) : crcN l < 4294967296 := crcF_lt l _ (by omega)
theorem sumB_lt (l : List UInt8) : sumB l < 4294967296 := Nat.xor_lt_two_pow (n := 32) (by omega) (crcN_lt l)
theorem crcN_step {l : List UInt8} {k : Nat} {x : UInt8} (h : l[k]? = some x) : crcN (l.take (k + 1)) = crcByte (crcN (l.take k)) x := by
 unfold crcN
 rw [List.take_add_one, h, List.foldl_append]
 rfl

theorem sum_ok (l : List UInt8) (hl : l.length ≤ 1000000) (w : World) :
   CallC Tryz.prog 282 #[.string (bs l)] w fun v w' => v = .int .i64 (sumB l : Nat) ∧ Ext No w w' := by
 refine fn_intro tabOk Tryz.func282 (by kernel_rfl) rfl Tryz.ntmps282 (lbO rfl) ?_
 have hS := St.start w No
 conv=>whnf
 rw [bs_size]
 refine loopR tabOk (fun σ w' q => ∃ i : Nat, σ = [(7, .int .i64 i), (6, .int .i64 (l.length : Nat)), (3, .int .u32 (crcN (l.take i) : Nat)), (0, .string (bs l))] ∧ q = l.length - i ∧ i ≤ l.length ∧ St w No w' [])
   (σ' := [(7, .int .i64 ((0 : Nat) : Int)), (6, .int .i64 (l.length : Nat)), (3, .int .u32 ((4294967295 : Nat) : Int)), (0, .string (bs l))]) (n := l.length) ⟨rfl, rfl, rfl, rfl, trivial⟩ ⟨0, rfl, rfl, Nat.zero_le _, hS⟩ ?_
 clear hS
 rintro _ w1 q ⟨i, rfl, rfl, hi, hS⟩
 conv=>whnf
 refine brD (fun h3 => ?_) (fun h3 => ?_)
 · obtain ⟨x, hx⟩ : ∃ x, l[i]? = some x := ⟨_, List.getElem?_eq_getElem (by omega)⟩
   have hst := crcN_step hx
   have hlt := crcN_lt (l.take i)
   have hx8 := x.toNat_lt
   generalize crcN (l.take i) = c at hst hlt
   have hxl := xor_byte hlt x
   conv=>whnf
   refine idxS Tryz.underlying9 rfl hx ?_
   conv=>whnf
   refine convI (kd := .u32) (m := (x.toNat : Int)) (by kernel_rfl) Tryz.underlying219 (by rw [IntKind.wrap_u32']; omega) ?_
   conv=>whnf
   refine xorC32 hlt (by omega) ?_
   conv=>whnf
   refine loopR tabOk (fun σ w' q => ∃ j : Nat, σ = [(16, .int .i64 j), (7, .int .i64 i), (6, .int .i64 (l.length : Nat)), (3, .int .u32 (crcIt j (c ^^^ x.toNat) : Nat)), (0, .string (bs l))] ∧ q = 8 - j ∧ j ≤ 8 ∧ St w No w' [])
     (σ' := [(16, .int .i64 ((0 : Nat) : Int)), (7, .int .i64 i), (6, .int .i64 (l.length : Nat)), (3, .int .u32 (crcIt 0 (c ^^^ x.toNat) : Nat)), (0, .string (bs l))]) (n := 8) ⟨rfl, rfl, rfl, rfl, rfl, trivial⟩ ⟨0, rfl, rfl, Nat.zero_le _, hS⟩ ?_
   clear hS
   rintro _ w2 q ⟨j, rfl, rfl, hj, hS⟩
   have hd := crcIt_lt hxl j
   have hd2 := crcIt_lt hxl (j + 1)
   have hdd : crcIt (j + 1) (c ^^^ x.toNat) = crcBit (crcIt j (c ^^^ x.toNat)) := rfl
   have h88 : crcByte c x = crcIt 8 (c ^^^ x.toNat) := rfl
   conv=>whnf
   refine brD (fun h4 => ?_) (fun h4 => ?_)
   · generalize crcIt j (c ^^^ x.toNat) = d at hd hdd
     have h1 := and1_le d
     have h2 : 3988292384 * (d &&& 1) ≤ 3988292384 * 1 := Nat.mul_le_mul_left _ h1
     conv=>whnf
     refine shrN (n := 1) rfl (by decide) ?_
     conv=>whnf
     refine andC32 (b := 1) hd (by omega) ?_
     conv=>whnf
     refine mulC32 (a := 3988292384) (by omega) ?_
     conv=>whnf
     refine xorC32 (by omega) (by omega) ?_
     conv=>whnf
     refine rgO ?_
     conv=>whnf
     refine LoopE.mk ⟨_, [(16, .int .i64 ((j + 1 : Nat) : Int)), (7, _), (6, _), (3, .int .u32 (crcIt (j + 1) (c ^^^ x.toNat) : Nat)), (0, _)], ?_, ⟨rfl, rfl, rfl, by rw [hdd]; rfl, rfl, trivial⟩, ⟨j + 1, rfl, rfl, by omega, hS⟩⟩
     omega
   · obtain rfl : j = 8 := by omega
     rw [← h88, ← hst]
     conv=>whnf
     refine rgO ?_
     conv=>whnf
     refine LoopE.mk ⟨_, [(7, .int .i64 ((i + 1 : Nat) : Int)), (6, _), (3, _), (0, _)], ?_, ⟨rfl, rfl, rfl, rfl, trivial⟩, ⟨i + 1, rfl, rfl, by omega, hS⟩⟩
     omega
 · obtain rfl : i = l.length := by omega
   rw [List.take_length]
   have h1 := crcN_lt l
   have h2 := sumB_lt l
   conv=>whnf
   refine notC32 h1 ?_
   conv=>whnf
   refine convI (kd := .i64) (m := (sumB l : Nat)) (by kernel_rfl) Tryz.underlying3 (by rw [IntKind.wrap_i64]; unfold sumB at h2 ⊢; omega) ?_
   repeat' ((conv => whnf); first | refine RetC.mk ?_ | refine nzO ?_ | refine rgO ?_ | refine ixO ?_ | (first|apply brD|apply brND|apply brN|apply brI) <;> (intro))
   exact ⟨rfl, hS.ext⟩

def headB (n e l : Nat) : List UInt8 := numB n 4 ++ numB e 4 ++ numB l 4
def bodyB (n e l : Nat) : List UInt8 := headB n e l ++ numB (sumB (headB n e l)) 4
theorem headB_len (n e l : Nat) : (headB n e l).length = 12 := by simp [headB, numB_len]
theorem bodyB_len (n e l : Nat) : (bodyB n e l).length = 16 := by simp [bodyB, headB_len, numB_len]
theorem body_ok (n e l : Nat) (hn : n < 9223372036854775808) (he : e < 9223372036854775808) (hl : l < 9223372036854775808) (w : World) :
   CallC Tryz.prog 221 #[.int .i64 (n : Int), .int .i64 (e : Int), .int .i64 (l : Int)] w fun v w' => v = .string (bs (bodyB n e l)) ∧ Ext No w w' := by
 have hs := sumB_lt (headB n e l)
 refine fn_intro tabOk Tryz.func221 (by kernel_rfl) rfl Tryz.ntmps221 (lbO rfl) ?_
 have hS := St.start w No
 conv=>whnf
 refine (number_ok n 4 (by omega) hn _).mono ?_
 rintro v w' ⟨rfl, hx⟩
 replace hS := hS.no hx
 conv=>whnf
 refine (number_ok e 4 (by omega) he _).mono ?_
 rintro v w' ⟨rfl, hx⟩
 replace hS := hS.no hx
 conv=>whnf
 refine addS (by simp [numB_len]) ?_
 conv=>whnf
 refine (number_ok l 4 (by omega) hl _).mono ?_
 rintro v w' ⟨rfl, hx⟩
 replace hS := hS.no hx
 conv=>whnf
 refine addS (by simp [numB_len]) ?_
 rw [show numB n 4 ++ numB e 4 ++ numB l 4 = headB n e l from rfl]
 conv=>whnf
 refine (sum_ok (headB n e l) (by rw [headB_len]; omega) _).mono ?_
 rintro v w' ⟨rfl, hx⟩
 replace hS := hS.no hx
 conv=>whnf
 refine (number_ok (sumB (headB n e l)) 4 (by omega) (by omega) _).mono ?_
 rintro v w' ⟨rfl, hx⟩
 replace hS := hS.no hx
 conv=>whnf
 refine addS (by simp [numB_len, headB_len]) ?_
 repeat' ((conv => whnf); first | refine RetC.mk ?_ | refine nzO ?_ | refine rgO ?_ | refine ixO ?_ | (first|apply brD|apply brND|apply brN|apply brI) <;> (intro))
 exact ⟨rfl, hS.ext⟩
end Go.Proofs.YtogjajjdaoihdaaGreatDoor

namespace Go.Proofs.YtogjajjdaoihdaaGreatDoor
set_option maxRecDepth 20000
open Go Ev

structure BytS where
 data : List UInt8
 off : Bool
 left : Int
def encBy (B : BytS) : List Value := B.data.flatMap encU ++ [.bool B.off, .int .i64 B.left]
theorem by_len {B : BytS} (h : B.data.length = 64) : (encBy B).length = 66 := by
 simp only [encBy, List.length_append, flat_len codU, h, List.length_cons, List.length_nil]
theorem by_off {B : BytS} (h : B.data.length = 64) : (encBy B)[64]? = some (.bool B.off) := by
 unfold encBy
 rw [List.getElem?_append_right (by rw [flat_len codU]; omega), flat_len codU, h]
 rfl
theorem by_left {B : BytS} (h : B.data.length = 64) : (encBy B)[65]? = some (.int .i64 B.left) := by
 unfold encBy
 rw [List.getElem?_append_right (by rw [flat_len codU]; omega), flat_len codU, h]
 rfl
theorem by_at {B : BytS} {k : Nat} {x : UInt8} (h : B.data[k]? = some x) : (encBy B)[k]? = some (.int .u8 (x.toNat : Int)) := by
 have := flat_get codU (j := 0) h rfl
 have lt := (List.getElem?_eq_some_iff.1 h).1
 unfold encBy
 rw [List.getElem?_append_left (by rw [flat_len codU]; omega)]
 simpa using this
theorem by_set {B : BytS} {k : Nat} {x y : UInt8} (h : B.data[k]? = some y) : over (encBy B) k [.int .u8 (x.toNat : Int)] = encBy ⟨B.data.set k x, B.off, B.left⟩ := by
 have lt := (List.getElem?_eq_some_iff.1 h).1
 unfold encBy
 have := over_mid [] (B.data.flatMap encU) [.bool B.off, .int .i64 B.left] [.int .u8 (x.toNat : Int)] k (by rw [flat_len codU]; simp; omega)
 simp only [List.nil_append, List.length_nil, Nat.zero_add] at this
 have h2 := flat_over codU (j := 0) (y := x) (vs := [.int .u8 (x.toNat : Int)]) h (by simp) rfl
 rw [Nat.mul_one, Nat.add_zero] at h2
 rw [this, h2]
theorem by_setOff {B : BytS} {x : Bool} (h : B.data.length = 64) : over (encBy B) 64 [.bool x] = encBy ⟨B.data, x, B.left⟩ := by
 unfold encBy
 have := over_mid (B.data.flatMap encU) [.bool B.off, .int .i64 B.left] [] [.bool x] 0 (by simp)
 simp only [flat_len codU, h, List.append_nil, Nat.mul_one, Nat.add_zero] at this
 rw [this]
 rfl
theorem by_setLeft {B : BytS} {x : Int} (h : B.data.length = 64) : over (encBy B) 65 [.int .i64 x] = encBy ⟨B.data, B.off, x⟩ := by
 unfold encBy
 have := over_mid (B.data.flatMap encU) [.bool B.off, .int .i64 B.left] [] [.int .i64 x] 1 (by simp)
 simp only [flat_len codU, h, List.append_nil, Nat.mul_one] at this
 rw [this]
 rfl

def BytS.write (B : BytS) (p : Nat) : List UInt8 → Bool × BytS
 | [] => (true, B)
 | x :: r => if B.off = true ∨ B.left = 0 then (false, ⟨B.data, true, B.left⟩) else BytS.write ⟨B.data.set p x, B.off, if B.left - 1 > -1 then B.left - 1 else -1⟩ (p + 1) r
theorem write_cons (B : BytS) (p : Nat) (x : UInt8) (r : List UInt8) : B.write p (x :: r) = if B.off = true ∨ B.left = 0 then (false, ⟨B.data, true, B.left⟩) else BytS.write ⟨B.data.set p x, B.off, if B.left - 1 > -1 then B.left - 1 else -1⟩ (p + 1) r := rfl
theorem write_nil (B : BytS) (p : Nat) : B.write p [] = (true, B) := rfl
def by0 : BytS := ⟨List.replicate 64 0, false, -1⟩

section
variable {w : World} {b : Nat} {B : BytS}
theorem newBytes_ok (w : World) : CallC Tryz.prog 73 #[] w fun v w' => ∃ b, v = .pointer (some ⟨b, 0, none⟩) ∧ w.heap.size ≤ b ∧ Ext No w w' ∧ Blk w' b 253 (encBy by0) := by
 have hb : ∀ w, (Instr.build 253 #[(2, .int .i64 (-1))]).run Tryz.prog w = .ok (.agg (encBy by0).toArray) w := fun w => by kernel_rfl
 have hb2 : ∀ k : Value → Prop, k (.agg (encBy by0).toArray) → PureC Tryz.prog (Instr.build 253 #[(2, .int .i64 (-1))]) k := fun k hk => PureC.of hb hk
 have ho : cellsL (.agg (encBy by0).toArray) = encBy by0 := by simp [cellsL]
 generalize Value.agg (encBy by0).toArray = VV at hb2 ho
 refine fn_intro tabOk Tryz.func73 (by kernel_rfl) rfl Tryz.ntmps73 (lbO rfl) ?_
 have hS := St.start w No
 repeat' ((conv => whnf); first | refine RetC.mk ?_ | refine hb2 _ ?_)
 refine hS.new (fun b w' hb hS => ?_)
 rw [ho] at hS
 repeat' ((conv => whnf); first | refine RetC.mk ?_ | refine nzO ?_ | refine rgO ?_ | refine ixO ?_ | (first|apply brD|apply brND|apply brN|apply brI) <;> (intro))
 exact ⟨b, rfl, hb, hS.ext, hS.blk 0 rfl⟩
theorem bon_ok (hb : Blk w b 253 (encBy B)) (hl : B.data.length = 64) : CallC Tryz.prog 239 #[.pointer (some ⟨b, 0, none⟩)] w fun _ w' => Ext (· = b) w w' ∧ Blk w' b 253 (encBy ⟨B.data, false, -1⟩) := by
 refine fn_intro tabOk Tryz.func239 (by kernel_rfl) rfl Tryz.ntmps239 (lbO rfl) ?_
 have hS := (St.start w (· = b)).add (blk_local b _ _) hb (by simp [blk]; exact hb.lt) (by simp)
 conv=>whnf
 refine hS.st 0 rfl (by rw [by_len hl]; simp [cellsL]) rfl (fun w' hS => ?_)
 replace hS : St w (· = b) w' [blk b 253 (encBy ⟨B.data, false, B.left⟩)] := by rw [← by_setOff hl]; exact hS
 conv=>whnf
 refine hS.st 0 rfl (by rw [by_len (by exact hl)]; simp [cellsL]) rfl (fun w' hS => ?_)
 replace hS : St w (· = b) w' [blk b 253 (encBy ⟨B.data, false, -1⟩)] := by rw [← by_setLeft (B := ⟨B.data, false, B.left⟩) hl]; exact hS
 repeat' ((conv => whnf); first | refine RetC.mk ?_ | refine nzO ?_ | refine rgO ?_ | refine ixO ?_ | (first|apply brD|apply brND|apply brN|apply brI) <;> (intro))
 exact ⟨hS.ext, hS.blk 0 rfl⟩
theorem boff_ok (hb : Blk w b 253 (encBy B)) (hl : B.data.length = 64) : CallC Tryz.prog 238 #[.pointer (some ⟨b, 0, none⟩)] w fun _ w' => Ext (· = b) w w' ∧ Blk w' b 253 (encBy ⟨B.data, true, B.left⟩) := by
 refine fn_intro tabOk Tryz.func238 (by kernel_rfl) rfl Tryz.ntmps238 (lbO rfl) ?_
 have hS := (St.start w (· = b)).add (blk_local b _ _) hb (by simp [blk]; exact hb.lt) (by simp)
 conv=>whnf
 refine hS.st 0 rfl (by rw [by_len hl]; simp [cellsL]) rfl (fun w' hS => ?_)
 replace hS : St w (· = b) w' [blk b 253 (encBy ⟨B.data, true, B.left⟩)] := by rw [← by_setOff hl]; exact hS
 repeat' ((conv => whnf); first | refine RetC.mk ?_ | refine nzO ?_ | refine rgO ?_ | refine ixO ?_ | (first|apply brD|apply brND|apply brN|apply brI) <;> (intro))
 exact ⟨hS.ext, hS.blk 0 rfl⟩
theorem bpower_ok (hb : Blk w b 253 (encBy B)) (hl : B.data.length = 64) : CallC Tryz.prog 278 #[.pointer (some ⟨b, 0, none⟩)] w fun v w' => v = .bool (!B.off) ∧ Ext No w w' := by
 refine fn_intro tabOk Tryz.func278 (by kernel_rfl) rfl Tryz.ntmps278 (lbO rfl) ?_
 have hS := St.start w No
 conv=>whnf
 refine ldc (v := .bool B.off) (by rw [hb.cell]; exact by_off hl) ?_
 repeat' ((conv => whnf); first | refine RetC.mk ?_ | refine nzO ?_ | refine rgO ?_ | refine ixO ?_ | (first|apply brD|apply brND|apply brN|apply brI) <;> (intro))
 exact ⟨rfl, hS.ext⟩
theorem ball_ok (hb : Blk w b 253 (encBy B)) (hl : B.data.length = 64) : CallC Tryz.prog 219 #[.pointer (some ⟨b, 0, none⟩)] w fun v w' => v = .string (bs B.data) ∧ Ext No w w' := by
 have h0 : CellsAt w b 0 (B.data.flatMap encU) := fun j v hj => by
   have lt := (List.getElem?_eq_some_iff.1 hj).1
   rw [hb.cell]
   unfold encBy
   rw [Nat.zero_add, List.getElem?_append_left lt]
   exact hj
 refine fn_intro tabOk Tryz.func219 (by kernel_rfl) rfl Tryz.ntmps219 (lbO rfl) ?_
 have hS := St.start w No
 conv=>whnf
 refine strC Tryz.underlying192 Tryz.underlying5 Tryz.underlying9 h0 hl ?_
 repeat' ((conv => whnf); first | refine RetC.mk ?_ | refine nzO ?_ | refine rgO ?_ | refine ixO ?_ | (first|apply brD|apply brND|apply brN|apply brI) <;> (intro))
 exact ⟨rfl, hS.ext⟩
theorem bcut_ok {E : Nat → Addr} {n : Nat} (k : Int) (hb : Blk w b 253 (encBy B)) (hl : B.data.length = 64) (hE : Errs w E n [2, 7]) (hq : n ≤ b) : CallC Tryz.prog 240 #[.pointer (some ⟨b, 0, none⟩), .int .i64 k] w fun v w' => v = errV E (if k < 0 then 2 else if B.off = true then 7 else 0) ∧ Ext (· = b) w w' ∧ Blk w' b 253 (encBy (if k < 0 ∨ B.off = true then B else ⟨B.data, B.off, k⟩)) := by
 refine fn_intro tabOk Tryz.func240 (by kernel_rfl) rfl Tryz.ntmps240 (lbO rfl) ?_
 have hS := (St.start w (· = b)).add (blk_local b _ _) hb (by simp [blk]; exact hb.lt) (by simp)
 conv=>whnf
 refine brD (fun h1 => ?_) (fun h1 => ?_)
 · repeat' ((conv => whnf); first | refine RetC.mk ?_ | refine nzO ?_ | refine rgO ?_ | refine ixO ?_ | refine hS.ldr (hE.at_ 2 rfl) (hE.ne 2 rfl hq) ?_ | refine hS.ldrF (hE.at_ 2 rfl) (hE.ne 2 rfl hq) id ?_ | (first|apply brD|apply brND|apply brN|apply brI) <;> (intro))
   rw [if_pos h1, if_pos (.inl h1)]
   exact ⟨rfl, hS.ext, hS.blk 0 rfl⟩
 conv=>whnf
 refine hS.ld 0 rfl (by_off hl) ?_
 rw [if_neg h1]
 cases ho : B.off
 · rw [if_neg (by simp), if_neg (by simp [h1])]
   conv=>whnf
   refine hS.st 0 rfl (by rw [by_len hl]; simp [cellsL]) rfl (fun w' hS => ?_)
   replace hS : St w (· = b) w' [blk b 253 (encBy ⟨B.data, B.off, k⟩)] := by rw [← by_setLeft hl]; exact hS
   rw [ho] at hS
   repeat' ((conv => whnf); first | refine RetC.mk ?_ | refine nzO ?_ | refine rgO ?_ | refine ixO ?_ | (first|apply brD|apply brND|apply brN|apply brI) <;> (intro))
   exact ⟨rfl, hS.ext, hS.blk 0 rfl⟩
 · rw [if_pos rfl, if_pos (.inr rfl)]
   repeat' ((conv => whnf); first | refine RetC.mk ?_ | refine nzO ?_ | refine rgO ?_ | refine ixO ?_ | refine hS.ldr (hE.at_ 7 rfl) (hE.ne 7 rfl hq) ?_ | refine hS.ldrF (hE.at_ 7 rfl) (hE.ne 7 rfl hq) id ?_ | (first|apply brD|apply brND|apply brN|apply brI) <;> (intro))
   exact ⟨rfl, hS.ext, hS.blk 0 rfl⟩
theorem drop_at {α : Type} {s : List α} {i : Nat} {x : α} (h : s[i]? = some x) : s.drop i = x :: s.drop (i + 1) := by
 obtain ⟨lt, e⟩ := List.getElem?_eq_some_iff.1 h
 rw [List.drop_eq_getElem_cons lt, e]
theorem bwrite_ok {E : Nat → Addr} {n : Nat} (p : Nat) (s : List UInt8) (hp : p + s.length ≤ 64) (hb : Blk w b 253 (encBy B)) (hl : B.data.length = 64) (hf : -1 ≤ B.left ∧ B.left ≤ 9223372036854775807) (hE : Errs w E n [7]) (hq : n ≤ b) :
   CallC Tryz.prog 283 #[.pointer (some ⟨b, 0, none⟩), .int .i64 (p : Int), .string (bs s)] w fun v w' => v = errV E (if (B.write p s).1 = true then 0 else 7) ∧ Ext (· = b) w w' ∧ Blk w' b 253 (encBy (B.write p s).2) := by
 refine fn_intro tabOk Tryz.func283 (by kernel_rfl) rfl Tryz.ntmps283 (lbO rfl) ?_
 have hS := (St.start w (· = b)).add (blk_local b _ _) hb (by simp [blk]; exact hb.lt) (by simp)
 conv=>whnf
 rw [bs_size]
 refine loopR tabOk (fun σ w' q => ∃ (i : Nat) (C : BytS), σ = [(10, .int .i64 i), (9, .int .i64 (s.length : Nat)), (2, .string (bs s)), (1, .int .i64 (p : Int)), (0, .pointer (some ⟨b, 0, none⟩))] ∧ q = s.length - i ∧ i ≤ s.length ∧ C.data.length = 64 ∧ (-1 ≤ C.left ∧ C.left ≤ 9223372036854775807) ∧ B.write p s = C.write (p + i) (s.drop i) ∧ St w (· = b) w' [blk b 253 (encBy C)])
   (σ' := [(10, .int .i64 ((0 : Nat) : Int)), (9, .int .i64 (s.length : Nat)), (2, .string (bs s)), (1, .int .i64 (p : Int)), (0, .pointer (some ⟨b, 0, none⟩))]) (n := s.length) ⟨rfl, rfl, rfl, rfl, rfl, trivial⟩ ⟨0, B, rfl, rfl, Nat.zero_le _, hl, hf, rfl, hS⟩ ?_
 clear hS
 rintro _ w1 q ⟨i, C, rfl, rfl, hi, hcl, hcf, hw, hS⟩
 conv=>whnf
 refine brD (fun h3 => ?_) (fun h3 => ?_)
 · obtain ⟨x, hx⟩ : ∃ x, s[i]? = some x := ⟨_, List.getElem?_eq_getElem (by omega)⟩
   obtain ⟨y, hy⟩ : ∃ y, C.data[p + i]? = some y := ⟨_, List.getElem?_eq_getElem (by omega)⟩
   rw [drop_at hx, write_cons] at hw
   conv=>whnf
   refine hS.ld 0 rfl (by_off hcl) ?_
   have fail : C.off = true ∨ C.left = 0 → ∀ w', St w (· = b) w' [blk b 253 (encBy ⟨C.data, true, C.left⟩)] → (errV E 7 = errV E (if (B.write p s).1 = true then 0 else 7) ∧ Ext (· = b) w w' ∧ Blk w' b 253 (encBy (B.write p s).2)) := by
     intro h w' hS
     rw [if_pos h] at hw
     rw [hw]
     exact ⟨rfl, hS.ext, hS.blk 0 rfl⟩
   cases hco : C.off
   · (conv => whnf)
     refine hS.ld 0 rfl (by_left hcl) ?_
     conv=>whnf
     refine brD (fun h4 => ?_) (fun h4 => ?_)
     · (conv => whnf)
       refine hS.st 0 rfl (by rw [by_len hcl]; simp [cellsL]) rfl (fun w' hS => ?_)
       replace hS : St w (· = b) w' [blk b 253 (encBy ⟨C.data, true, C.left⟩)] := by rw [← by_setOff hcl]; exact hS
       repeat' ((conv => whnf); first | refine RetC.mk ?_ | refine nzO ?_ | refine rgO ?_ | refine ixO ?_ | refine hS.ldr (hE.at_ 7 rfl) (hE.ne 7 rfl hq) ?_ | refine hS.ldrF (hE.at_ 7 rfl) (hE.ne 7 rfl hq) id ?_ | (first|apply brD|apply brND|apply brN|apply brI) <;> (intro))
       exact fail (.inr h4) _ hS
     · rw [if_neg (by simp [hco, h4])] at hw
       conv=>whnf
       (refine drawS tabOk mixed [] ((· = b)) [0, 1, 2, 3, 4, 5, 6, 7, 8, 9, 10] (by kernel_rfl) ?_; rintro w1 rfl; replace hS := hS.drew)
       conv=>whnf
       refine rgO ?_
       conv=>whnf
       refine idxS Tryz.underlying9 rfl hx ?_
       conv=>whnf
       refine ixO ?_
       conv=>whnf
       refine hS.stX 0 rfl (by rw [by_len hcl]; simp [cellsL]; omega) rfl (fun w' hx' hS => ?_)
       refine KeepC.mk hx' ?_
       have ho : over (encBy C) (0 + 0 + ((p : Int) + (i : Int)).toNat * 1) (cellsL (.int .u8 (x.toNat : Int))) = encBy ⟨C.data.set (p + i) x, C.off, C.left⟩ := by
         rw [show 0 + 0 + ((p : Int) + (i : Int)).toNat * 1 = p + i by omega]
         exact by_set hy
       have hcl2 : (C.data.set (p + i) x).length = 64 := by rw [List.length_set]; exact hcl
       replace hS : St w (· = b) w' [blk b 253 (encBy ⟨C.data.set (p + i) x, C.off, C.left⟩)] := by rw [← ho]; exact hS
       conv=>whnf
       refine hS.ld 0 rfl (by_left (by exact hcl2)) ?_
       conv=>whnf
       refine RngC.mk (by dsimp only; omega) (by dsimp only; omega) ?_
       conv=>whnf
       refine hS.st 0 rfl (by rw [by_len (by exact hcl2)]; simp [cellsL]) rfl (fun w' hS => ?_)
       replace hS : St w (· = b) w' [blk b 253 (encBy ⟨C.data.set (p + i) x, C.off, if C.left - 1 > -1 then C.left - 1 else -1⟩)] := by
         rw [← by_setLeft (B := ⟨C.data.set (p + i) x, C.off, C.left⟩) hcl2]
         exact hS
       conv=>whnf
       refine rgO ?_
       conv=>whnf
       refine LoopE.mk ⟨_, [(10, .int .i64 ((i + 1 : Nat) : Int)), (9, _), (2, _), (1, _), (0, _)], ?_, ⟨rfl, rfl, rfl, rfl, rfl, trivial⟩, ⟨i + 1, ⟨C.data.set (p + i) x, C.off, if C.left - 1 > -1 then C.left - 1 else -1⟩, rfl, rfl, by omega, hcl2, by dsimp only; split <;> omega, hw, hS⟩⟩
       omega
   · (conv => whnf)
     refine hS.st 0 rfl (by rw [by_len hcl]; simp [cellsL]) rfl (fun w' hS => ?_)
     replace hS : St w (· = b) w' [blk b 253 (encBy ⟨C.data, true, C.left⟩)] := by rw [← by_setOff hcl]; exact hS
     repeat' ((conv => whnf); first | refine RetC.mk ?_ | refine nzO ?_ | refine rgO ?_ | refine ixO ?_ | refine hS.ldr (hE.at_ 7 rfl) (hE.ne 7 rfl hq) ?_ | refine hS.ldrF (hE.at_ 7 rfl) (hE.ne 7 rfl hq) id ?_ | (first|apply brD|apply brND|apply brN|apply brI) <;> (intro))
     exact fail (.inl hco) _ hS
 · obtain rfl : i = s.length := by omega
   rw [List.drop_length, write_nil] at hw
   rw [hw]
   repeat' ((conv => whnf); first | refine RetC.mk ?_ | refine nzO ?_ | refine rgO ?_ | refine ixO ?_ | (first|apply brD|apply brND|apply brN|apply brI) <;> (intro))
   exact ⟨rfl, hS.ext, hS.blk 0 rfl⟩
end
end Go.Proofs.YtogjajjdaoihdaaGreatDoor

namespace Go.Proofs.YtogjajjdaoihdaaGreatDoor
set_option maxRecDepth 20000
open Go Ev

structure BOk (B : BytS) : Prop where
 len : B.data.length = 64
 lo : -1 ≤ B.left
 hi : B.left ≤ 9223372036854775807
theorem BOk.write : ∀ (s : List UInt8) {B : BytS} (p : Nat), BOk B → BOk (B.write p s).2
 | [], _, _, h => h
 | x :: r, B, p, h => by
   rw [write_cons]
   split
   · exact ⟨h.len, h.lo, h.hi⟩
   · refine BOk.write r (p + 1) ⟨by rw [List.length_set]; exact h.len, ?_, ?_⟩
     all_goals have := h.lo
     all_goals have := h.hi
     all_goals dsimp only
     all_goals split <;> omega

def mark (B : BytS) (p : Nat) : Bool × BytS := match B.data[p]? with
 | some x => if x = 0 then (true, B) else B.write p [0]
 | none => (true, B)
def cwrite (B : BytS) (n e l : Nat) : Bool × BytS :=
 if B.off = true then (false, B) else
 if (mark B (n % 2 * 20 + 16)).1 = true then
   if ((mark B (n % 2 * 20 + 16)).2.write (n % 2 * 20) (bodyB n e l)).1 = true then ((mark B (n % 2 * 20 + 16)).2.write (n % 2 * 20) (bodyB n e l)).2.write (n % 2 * 20 + 16) [165]
   else (false, ((mark B (n % 2 * 20 + 16)).2.write (n % 2 * 20) (bodyB n e l)).2)
 else (false, (mark B (n % 2 * 20 + 16)).2)
theorem BOk.mark {B : BytS} (p : Nat) (h : BOk B) : BOk (mark B p).2 := by
 unfold Proofs.YtogjajjdaoihdaaGreatDoor.mark
 split
 · split
   · exact h
   · exact h.write _ _
 · exact h
theorem BOk.cwrite {B : BytS} (n e l : Nat) (h : BOk B) : BOk (cwrite B n e l).2 := by
 unfold Proofs.YtogjajjdaoihdaaGreatDoor.cwrite
 split
 · exact h
 · split
   · split
     · exact BOk.write _ _ (BOk.write _ _ (h.mark _))
     · exact BOk.write _ _ (h.mark _)
   · exact h.mark _

structure CelS where
 num : Nat
 ep : Nat
 li : Nat
 dead : Bool
deriving DecidableEq
def encCl (b : Nat) (C : CelS) : List Value := [.pointer (some ⟨b, 0, none⟩), .int .i64 (C.num : Int), .int .i64 (C.ep : Int), .int .i64 (C.li : Int), .bool C.dead]

section
variable {w : World} {b c : Nat} {B : BytS} {C : CelS}
theorem cepoch_ok (hC : Blk w c 332 (encCl b C)) : CallC Tryz.prog 127 #[.pointer (some ⟨c, 0, none⟩)] w fun v w' => v = .int .i64 (C.ep : Int) ∧ Ext No w w' := by
 refine fn_intro tabOk Tryz.func127 (by kernel_rfl) rfl Tryz.ntmps127 (lbO rfl) ?_
 have hS := St.start w No
 conv=>whnf
 refine ldc (hC.cell 2) ?_
 repeat' ((conv => whnf); first | refine RetC.mk ?_ | refine nzO ?_ | refine rgO ?_ | refine ixO ?_ | (first|apply brD|apply brND|apply brN|apply brI) <;> (intro))
 exact ⟨rfl, hS.ext⟩
theorem clife_ok (hC : Blk w c 332 (encCl b C)) : CallC Tryz.prog 128 #[.pointer (some ⟨c, 0, none⟩)] w fun v w' => v = .int .i64 (C.li : Int) ∧ Ext No w w' := by
 refine fn_intro tabOk Tryz.func128 (by kernel_rfl) rfl Tryz.ntmps128 (lbO rfl) ?_
 have hS := St.start w No
 conv=>whnf
 refine ldc (hC.cell 3) ?_
 repeat' ((conv => whnf); first | refine RetC.mk ?_ | refine nzO ?_ | refine rgO ?_ | refine ixO ?_ | (first|apply brD|apply brND|apply brN|apply brI) <;> (intro))
 exact ⟨rfl, hS.ext⟩

theorem cwrite_ok {E : Nat → Addr} {q : Nat} (n e l : Nat) (hn : n < 9223372036854775808) (he : e < 9223372036854775808) (hl : l < 9223372036854775808) (hC : Blk w c 332 (encCl b C)) (hB : Blk w b 253 (encBy B)) (hO : BOk B) (hE : Errs w E q [7]) (hq : q ≤ b) :
   CallC Tryz.prog 222 #[.pointer (some ⟨c, 0, none⟩), .int .i64 (n : Int), .int .i64 (e : Int), .int .i64 (l : Int)] w fun v w' => v = errV E (if (cwrite B n e l).1 = true then 0 else 7) ∧ Ext (· = b) w w' ∧ Blk w' b 253 (encBy (cwrite B n e l).2) := by
 have hcb : ¬ c = b := Blk.ne hC hB (by decide)
 have hmod : (n : Int).tmod 2 = ((n % 2 : Nat) : Int) := by rw [Int.tmod_eq_emod_of_nonneg (by omega)]; omega
 have hn2 : n % 2 < 2 := Nat.mod_lt _ (by omega)
 have hbl := bodyB_len n e l
 unfold cwrite
 refine fn_intro tabOk Tryz.func222 (by kernel_rfl) rfl Tryz.ntmps222 (lbO rfl) ?_
 have hb := hB
 have hS := (St.start w (· = b)).add (blk_local b _ _) hb (by simp [blk]; exact hb.lt) (by simp)
 have h20 : (n : Int).tmod 2 * 20 = ((n % 2 * 20 : Nat) : Int) := by rw [hmod]; omega
 have h36 : n % 2 * 20 ≤ 20 := by omega
 generalize n % 2 * 20 = p at h20 h36
 repeat' ((conv => whnf); first | refine RetC.mk ?_ | refine nzO ?_ | refine rgO ?_ | refine ixO ?_ | refine rgO ?_ | (first|apply brD|apply brND|apply brN|apply brI) <;> (intro))
 rw [h20]
 conv=>whnf
 refine hS.ldr (hC.cell 0) hcb ?_
 conv=>whnf
 refine hS.ld 0 rfl (by_off hO.len) ?_
 cases hoff : B.off
 · rw [if_neg Bool.false_ne_true]
   conv=>whnf
   refine hS.ldr (hC.cell 0) hcb ?_
   conv=>whnf
   refine rgO ?_
   conv=>whnf
   refine ixO ?_
   obtain ⟨x, hx⟩ : ∃ x, B.data[p + 16]? = some x := ⟨_, List.getElem?_eq_getElem (by have := hO.len; omega)⟩
   have hmk : mark B (p + 16) = if x = 0 then (true, B) else B.write (p + 16) [0] := by unfold mark; rw [hx]
   conv=>whnf
   refine hS.ld 0 rfl (o := 0 + 0 + ((p : Int) + 16).toNat * 1) (by rw [show 0 + 0 + ((p : Int) + 16).toNat * 1 = p + 16 by omega]; exact by_at hx) ?_
   conv=>whnf
   refine neC ?_
   conv=>whnf
   refine brND (fun h1 => ?_) (fun h1 => ?_)
   · rw [if_neg (by rintro rfl; exact h1 rfl)] at hmk
     rw [hmk]
     have hO1 := hO.write [0] (p + 16)
     conv=>whnf
     refine hS.ldr (hC.cell 0) hcb ?_
     conv=>whnf
     refine rgO ?_
     conv=>whnf
     refine (bwrite_ok (p + 16) [0] (by simp; omega) (hS.blk 0 rfl) hO.len ⟨hO.lo, hO.hi⟩ (hE.ext hS.ext fun k hk => by subst hk; exact hq) hq).mono ?_
     rintro v w' ⟨rfl, hx', hB⟩
     replace hS := hS.upd 0 rfl hx' (fun c hc => by subst hc; exact List.mem_singleton.2 rfl) (blk_local _ _ _) hB (fun c hc => .inl hc)
     clear hx' hB
     generalize B.write (p + 16) [0] = R at hS hO1
     obtain ⟨ok, B1⟩ := R
     cases ok
     · repeat' ((conv => whnf); first | refine RetC.mk ?_ | refine nzO ?_ | refine rgO ?_ | refine ixO ?_ | (first|apply brD|apply brND|apply brN|apply brI) <;> (intro))
       exact ⟨rfl, hS.ext, hS.blk 0 rfl⟩
     · rw [if_pos rfl]
       conv=>whnf
       have hO2 := BOk.write (bodyB n e l) p hO1
       (refine drawS tabOk mixed [] ((· = b)) [0, 1, 2, 3, 4, 5, 6, 7, 8, 9, 10] (by kernel_rfl) ?_; rintro w1 rfl; replace hS := hS.drew)
       repeat' ((conv => whnf); first | refine RetC.mk ?_ | refine nzO ?_ | refine rgO ?_ | refine ixO ?_ | refine hS.ldrF (hC.cell 0) hcb hcb ?_ | (first|apply brD|apply brND|apply brN|apply brI) <;> (intro))
       refine (body_ok n e l hn he hl _).mono ?_
       rintro v w2 ⟨rfl, hx1⟩
       replace hS := hS.no hx1
       refine KeepC.mk hx1.of_no ?_
       conv=>whnf
       refine (bwrite_ok p (bodyB n e l) (by omega) (hS.blk 0 rfl) hO1.len ⟨hO1.lo, hO1.hi⟩ (hE.ext hS.ext fun k hk => by subst hk; exact hq) hq).mono ?_
       rintro v w' ⟨rfl, hx', hB⟩
       replace hS := hS.upd 0 rfl hx' (fun c hc => by subst hc; exact List.mem_singleton.2 rfl) (blk_local _ _ _) hB (fun c hc => .inl hc)
       refine KeepC.mk (hx1.of_no.trans hx') ?_
       clear hx' hB hx1
       generalize BytS.write B1 p (bodyB n e l) = R at hS hO2 ⊢
       obtain ⟨ok, B2⟩ := R
       cases ok
       · repeat' ((conv => whnf); first | refine RetC.mk ?_ | refine nzO ?_ | refine rgO ?_ | refine ixO ?_ | (first|apply brD|apply brND|apply brN|apply brI) <;> (intro))
         exact ⟨rfl, hS.ext, hS.blk 0 rfl⟩
       · rw [if_pos rfl]
         conv=>whnf
         refine hS.ldr (hC.cell 0) hcb ?_
         conv=>whnf
         refine rgO ?_
         conv=>whnf
         refine (bwrite_ok (p + 16) [165] (by simp; omega) (hS.blk 0 rfl) hO2.len ⟨hO2.lo, hO2.hi⟩ (hE.ext hS.ext fun k hk => by subst hk; exact hq) hq).mono ?_
         rintro v w' ⟨rfl, hx', hB⟩
         replace hS := hS.upd 0 rfl hx' (fun c hc => by subst hc; exact List.mem_singleton.2 rfl) (blk_local _ _ _) hB (fun c hc => .inl hc)
         clear hx' hB
         repeat' ((conv => whnf); first | refine RetC.mk ?_ | refine nzO ?_ | refine rgO ?_ | refine ixO ?_ | (first|apply brD|apply brND|apply brN|apply brI) <;> (intro))
         exact ⟨rfl, hS.ext, hS.blk 0 rfl⟩
   · rw [if_pos (by
       have h2 : x.toNat = 0 := by omega
       exact UInt8.toNat_inj.1 h2)] at hmk
     rw [hmk, if_pos rfl]
     conv=>whnf
     have hO2 := BOk.write (bodyB n e l) p hO
     (refine drawS tabOk mixed [] ((· = b)) [0, 1, 2, 3, 4, 5, 6, 7, 8, 9, 10] (by kernel_rfl) ?_; rintro w1 rfl; replace hS := hS.drew)
     repeat' ((conv => whnf); first | refine RetC.mk ?_ | refine nzO ?_ | refine rgO ?_ | refine ixO ?_ | refine hS.ldrF (hC.cell 0) hcb hcb ?_ | (first|apply brD|apply brND|apply brN|apply brI) <;> (intro))
     refine (body_ok n e l hn he hl _).mono ?_
     rintro v w2 ⟨rfl, hx1⟩
     replace hS := hS.no hx1
     refine KeepC.mk hx1.of_no ?_
     conv=>whnf
     refine (bwrite_ok p (bodyB n e l) (by omega) (hS.blk 0 rfl) hO.len ⟨hO.lo, hO.hi⟩ (hE.ext hS.ext fun k hk => by subst hk; exact hq) hq).mono ?_
     rintro v w' ⟨rfl, hx', hB⟩
     replace hS := hS.upd 0 rfl hx' (fun c hc => by subst hc; exact List.mem_singleton.2 rfl) (blk_local _ _ _) hB (fun c hc => .inl hc)
     refine KeepC.mk (hx1.of_no.trans hx') ?_
     clear hx' hB hx1
     generalize BytS.write B p (bodyB n e l) = R at hS hO2 ⊢
     obtain ⟨ok, B2⟩ := R
     cases ok
     · repeat' ((conv => whnf); first | refine RetC.mk ?_ | refine nzO ?_ | refine rgO ?_ | refine ixO ?_ | (first|apply brD|apply brND|apply brN|apply brI) <;> (intro))
       exact ⟨rfl, hS.ext, hS.blk 0 rfl⟩
     · rw [if_pos rfl]
       conv=>whnf
       refine hS.ldr (hC.cell 0) hcb ?_
       conv=>whnf
       refine rgO ?_
       conv=>whnf
       refine (bwrite_ok (p + 16) [165] (by simp; omega) (hS.blk 0 rfl) hO2.len ⟨hO2.lo, hO2.hi⟩ (hE.ext hS.ext fun k hk => by subst hk; exact hq) hq).mono ?_
       rintro v w' ⟨rfl, hx', hB⟩
       replace hS := hS.upd 0 rfl hx' (fun c hc => by subst hc; exact List.mem_singleton.2 rfl) (blk_local _ _ _) hB (fun c hc => .inl hc)
       clear hx' hB
       repeat' ((conv => whnf); first | refine RetC.mk ?_ | refine nzO ?_ | refine rgO ?_ | refine ixO ?_ | (first|apply brD|apply brND|apply brN|apply brI) <;> (intro))
       exact ⟨rfl, hS.ext, hS.blk 0 rfl⟩
 · rw [if_pos rfl]
   repeat' ((conv => whnf); first | refine RetC.mk ?_ | refine nzO ?_ | refine rgO ?_ | refine ixO ?_ | refine hS.ldr (hE.at_ 7 rfl) (hE.ne 7 rfl hq) ?_ | refine hS.ldrF (hE.at_ 7 rfl) (hE.ne 7 rfl hq) id ?_ | (first|apply brD|apply brND|apply brN|apply brI) <;> (intro))
   exact ⟨rfl, hS.ext, hS.blk 0 rfl⟩
end
end Go.Proofs.YtogjajjdaoihdaaGreatDoor

namespace Go.Proofs.YtogjajjdaoihdaaGreatDoor
set_option maxRecDepth 20000
open Go Ev

def CelS.put (C : CelS) (B : BytS) (e l : Int) : Nat × BytS × CelS :=
 if C.dead = true then (7, B, C) else
 if e < 0 ∨ e > 1073741824 ∨ l < 0 ∨ l > 1073741824 then (2, B, C) else
 if e < C.ep ∨ l < C.li then (10, B, C) else
 if C.num + 1 ≥ 4294967296 then (6, B, C) else
 if (cwrite B (C.num + 1) e.toNat l.toNat).1 = true then (0, (cwrite B (C.num + 1) e.toNat l.toNat).2, ⟨C.num + 1, e.toNat, l.toNat, C.dead⟩)
 else (7, (cwrite B (C.num + 1) e.toNat l.toNat).2, ⟨C.num, C.ep, C.li, true⟩)

def recK (d : List UInt8) (k : Nat) : List UInt8 := (d.drop (k * 20)).take 17
def recN (d : List UInt8) (k : Nat) : Nat := valB ((recK d k).take 4)
def recE (d : List UInt8) (k : Nat) : Nat := valB (((recK d k).drop 4).take 4)
def recL (d : List UInt8) (k : Nat) : Nat := valB (((recK d k).drop 8).take 4)
def fullK (d : List UInt8) (k : Nat) : Prop := 1 ≤ recN d k ∧ recN d k % 2 = k ∧ bodyB (recN d k) (recE d k) (recL d k) ++ [165] = recK d k
instance (d : List UInt8) (k : Nat) : Decidable (fullK d k) := by unfold fullK; infer_instance
def openK (d : List UInt8) (k : Nat) (C : CelS) : CelS := if fullK d k ∧ recN d k > C.num then ⟨recN d k, recE d k, recL d k, C.dead⟩ else C
def openN (d : List UInt8) : Nat → CelS
 | 0 => ⟨0, 0, 0, false⟩
 | k + 1 => openK d k (openN d k)
def openS (d : List UInt8) : CelS := openN d 2
theorem recK_len {d : List UInt8} {k : Nat} (h : d.length = 64) (hk : k < 2) : (recK d k).length = 17 := by
 unfold recK
 rw [List.length_take, List.length_drop]
 omega
theorem val4 {l : List UInt8} (h : l.length ≤ 4) : valB l < 4294967296 := by
 have h1 := valB_lt l
 have h2 : 256 ^ l.length ≤ 256 ^ 4 := Nat.pow_le_pow_right (by omega) h
 omega
theorem recN_lt (d : List UInt8) (k : Nat) : recN d k < 4294967296 := val4 (by rw [List.length_take]; omega)
theorem recE_lt (d : List UInt8) (k : Nat) : recE d k < 4294967296 := val4 (by rw [List.length_take]; omega)
theorem recL_lt (d : List UInt8) (k : Nat) : recL d k < 4294967296 := val4 (by rw [List.length_take]; omega)
theorem openN_lt (d : List UInt8) : ∀ k, (openN d k).num < 4294967296 ∧ (openN d k).ep < 4294967296 ∧ (openN d k).li < 4294967296
 | 0 => by simp [openN]
 | k + 1 => by
   unfold openN openK
   split
   · exact ⟨recN_lt d k, recE_lt d k, recL_lt d k⟩
   · exact openN_lt d k

section
variable {w : World} {b c : Nat} {B : BytS} {C : CelS}
theorem copen_ok (hB : Blk w b 253 (encBy B)) (hl : B.data.length = 64) (ho : B.off = false) : CallC Tryz.prog 125 #[.pointer (some ⟨b, 0, none⟩)] w fun v w' => ∃ c, v = .tuple #[.pointer (some ⟨c, 0, none⟩), .nilIface] ∧ w.heap.size ≤ c ∧ Ext No w w' ∧ Blk w' c 332 (encCl b (openS B.data)) := by
 refine fn_intro tabOk Tryz.func125 (by kernel_rfl) rfl Tryz.ntmps125 (lbO rfl) ?_
 have hS := St.start w No
 conv=>whnf
 refine ldc (v := .bool B.off) (by rw [hB.cell]; exact by_off hl) ?_
 rw [ho]
 conv=>whnf
 refine hS.new (fun c w' hc hS => ?_)
 conv=>whnf
 refine loopR tabOk (fun σ w' q => ∃ k : Nat, σ = [(21, .int .i64 k), (4, .pointer (some ⟨c, 0, none⟩)), (0, .pointer (some ⟨b, 0, none⟩))] ∧ q = 2 - k ∧ k ≤ 2 ∧ St w No w' [blk c 332 (encCl b (openN B.data k))])
   (σ' := [(21, .int .i64 ((0 : Nat) : Int)), (4, .pointer (some ⟨c, 0, none⟩)), (0, .pointer (some ⟨b, 0, none⟩))]) (n := 2) ⟨rfl, rfl, rfl, trivial⟩ ⟨0, rfl, rfl, Nat.zero_le _, hS⟩ ?_
 clear hS
 rintro _ w1 q ⟨k, rfl, rfl, hk, hS⟩
 conv=>whnf
 refine brD (fun h3 => ?_) (fun h3 => ?_)
 · have hk2 : k < 2 := by omega
   have hrl := recK_len hl hk2
   have n1 := recN_lt B.data k
   have n2 := recE_lt B.data k
   have n3 := recL_lt B.data k
   have hst : openN B.data (k + 1) = openK B.data k (openN B.data k) := rfl
   conv=>whnf
   refine (ball_ok (hS.ext.blk hB id) hl).mono ?_
   rintro v w' ⟨rfl, hx'⟩
   replace hS := hS.no hx'
   clear hx'
   repeat' ((conv => whnf); first | refine RetC.mk ?_ | refine nzO ?_ | refine rgO ?_ | refine ixO ?_ | refine rgO ?_ | (first|apply brD|apply brND|apply brN|apply brI) <;> (intro))
   refine slcS (a := k * 20) (b := k * 20 + 17) (r := recK B.data k) Tryz.underlying9 (by omega) (by omega) (by omega) (by omega) (by unfold recK; congr 1; omega) ?_
   conv=>whnf
   (refine drawS tabOk mixed [] (No) [0, 1, 3, 4, 6, 7, 2, 5, 8, 9, 10, 11] (by kernel_rfl) ?_; rintro w1 rfl; replace hS := hS.drew)
   conv=>whnf
   refine slcTo (b := 4) Tryz.underlying9 rfl (by omega) rfl ?_
   conv=>whnf
   refine slcS (a := 4) (b := 8) Tryz.underlying9 rfl rfl (by omega) (by omega) rfl ?_
   conv=>whnf
   refine slcS (a := 8) (b := 12) Tryz.underlying9 rfl rfl (by omega) (by omega) rfl ?_
   conv=>whnf
   refine (value_ok ((recK B.data k).take 4) (by rw [List.length_take]; omega) _).mono ?_
   rintro v w2 ⟨rfl, hx1⟩
   replace hS := hS.no hx1
   refine KeepC.mk hx1 ?_
   conv=>whnf
   refine (value_ok (((recK B.data k).drop 4).take (8 - 4)) (by rw [List.length_take]; omega) _).mono ?_
   rintro v w3 ⟨rfl, hx2⟩
   replace hS := hS.no hx2
   refine KeepC.mk (hx1.trans hx2) ?_
   conv=>whnf
   refine (value_ok (((recK B.data k).drop 8).take (12 - 8)) (by rw [List.length_take]; omega) _).mono ?_
   rintro v w4 ⟨rfl, hx3⟩
   replace hS := hS.no hx3
   refine KeepC.mk ((hx1.trans hx2).trans hx3) ?_
   clear hx1 hx2 hx3
   rw [show valB ((recK B.data k).take 4) = recN B.data k from rfl, show valB (((recK B.data k).drop 4).take (8 - 4)) = recE B.data k from rfl, show valB (((recK B.data k).drop 8).take (12 - 8)) = recL B.data k from rfl]
   have hmod : (recN B.data k : Int).tmod 2 = ((recN B.data k % 2 : Nat) : Int) := by rw [Int.tmod_eq_emod_of_nonneg (by omega)]; omega
   have hf : fullK B.data k ↔ (1 ≤ recN B.data k ∧ recN B.data k % 2 = k ∧ bodyB (recN B.data k) (recE B.data k) (recL B.data k) ++ [165] = recK B.data k) := Iff.rfl
   have hok : openK B.data k (openN B.data k) = if fullK B.data k ∧ recN B.data k > (openN B.data k).num then ⟨recN B.data k, recE B.data k, recL B.data k, (openN B.data k).dead⟩ else openN B.data k := rfl
   generalize hn : recN B.data k = rn at *
   generalize hee : recE B.data k = re at *
   generalize hll : recL B.data k = rl at *
   conv=>whnf
   refine brD (fun h4 => ?_) (fun h4 => ?_)
   · (conv => whnf)
     refine nzO ?_
     rw [hmod]
     conv=>whnf
     refine brD (fun h5 => ?_) (fun h5 => ?_)
     · (conv => whnf)
       refine (body_ok rn re rl (by omega) (by omega) (by omega) _).mono ?_
       rintro v w' ⟨rfl, hx'⟩
       replace hS := hS.no hx'
       clear hx'
       conv=>whnf
       refine addS (b := [165]) (by rw [bodyB_len]; simp) ?_
       conv=>whnf
       refine eqS2 ?_
       conv=>whnf
       refine brD (fun h6 => ?_) (fun h6 => ?_)
       · (conv => whnf)
         refine hS.ld 0 rfl rfl ?_
         conv=>whnf
         refine brD (fun h7 => ?_) (fun h7 => ?_)
         · rw [hok, if_pos ⟨hf.2 ⟨by omega, by omega, h6⟩, by omega⟩] at hst
           conv=>whnf
           refine hS.st 0 rfl (lbO rfl) rfl (fun w' hS => ?_)
           conv=>whnf
           refine hS.st 0 rfl (lbO rfl) rfl (fun w' hS => ?_)
           conv=>whnf
           refine hS.st 0 rfl (lbO rfl) rfl (fun w' hS => ?_)
           replace hS : St w No w' [blk c 332 (encCl b ⟨rn, re, rl, (openN B.data k).dead⟩)] := hS
           rw [← hst] at hS
           conv=>whnf
           refine rgO ?_
           conv=>whnf
           refine LoopE.mk ⟨_, [(21, .int .i64 ((k + 1 : Nat) : Int)), (4, _), (0, _)], ?_, ⟨rfl, rfl, rfl, trivial⟩, ⟨k + 1, rfl, rfl, by omega, hS⟩⟩
           omega
         · skip
           rw [hok, if_neg (fun h => h7 (by have := h.2; omega))] at hst
           conv=>whnf
           refine rgO ?_
           conv=>whnf
           refine LoopE.mk ⟨_, [(21, .int .i64 ((k + 1 : Nat) : Int)), (4, _), (0, _)], ?_, ⟨rfl, rfl, rfl, trivial⟩, ⟨k + 1, rfl, rfl, by omega, by rw [hst]; exact hS⟩⟩
           omega
       · skip
         rw [hok, if_neg (fun h => h6 (hf.1 h.1).2.2)] at hst
         conv=>whnf
         refine rgO ?_
         conv=>whnf
         refine LoopE.mk ⟨_, [(21, .int .i64 ((k + 1 : Nat) : Int)), (4, _), (0, _)], ?_, ⟨rfl, rfl, rfl, trivial⟩, ⟨k + 1, rfl, rfl, by omega, by rw [hst]; exact hS⟩⟩
         omega
     · skip
       rw [hok, if_neg (fun h => h5 (by have := (hf.1 h.1).2.1; omega))] at hst
       conv=>whnf
       refine rgO ?_
       conv=>whnf
       refine LoopE.mk ⟨_, [(21, .int .i64 ((k + 1 : Nat) : Int)), (4, _), (0, _)], ?_, ⟨rfl, rfl, rfl, trivial⟩, ⟨k + 1, rfl, rfl, by omega, by rw [hst]; exact hS⟩⟩
       omega
   · skip
     rw [hok, if_neg (fun h => h4 (by have := (hf.1 h.1).1; omega))] at hst
     conv=>whnf
     refine rgO ?_
     conv=>whnf
     refine LoopE.mk ⟨_, [(21, .int .i64 ((k + 1 : Nat) : Int)), (4, _), (0, _)], ?_, ⟨rfl, rfl, rfl, trivial⟩, ⟨k + 1, rfl, rfl, by omega, by rw [hst]; exact hS⟩⟩
     omega
 · obtain rfl : k = 2 := by omega
   repeat' ((conv => whnf); first | refine RetC.mk ?_ | refine nzO ?_ | refine rgO ?_ | refine ixO ?_ | (first|apply brD|apply brND|apply brN|apply brI) <;> (intro))
   exact ⟨c, rfl, hc, hS.ext, hS.blk 0 rfl⟩
theorem cput_ok {E : Nat → Addr} {q : Nat} (e l : Int) (hC : Blk w c 332 (encCl b C)) (hB : Blk w b 253 (encBy B)) (hO : BOk B) (hN : C.num < 4294967296) (hE : Errs w E q [2, 6, 7, 10]) (hq : q ≤ b) (hqc : q ≤ c) :
   CallC Tryz.prog 126 #[.pointer (some ⟨c, 0, none⟩), .int .i64 e, .int .i64 l] w fun v w' => v = errV E (C.put B e l).1 ∧ Ext (fun d => d = b ∨ d = c) w w' ∧ Blk w' b 253 (encBy (C.put B e l).2.1) ∧ Blk w' c 332 (encCl b (C.put B e l).2.2) := by
 have hcb : ¬ c = b := Blk.ne hC hB (by decide)
 unfold CelS.put
 refine fn_intro tabOk Tryz.func126 (by kernel_rfl) rfl Tryz.ntmps126 (lbO rfl) ?_
 have hS := (St.start w (fun d => d = b ∨ d = c)).add (blk_local b _ _) hB (by simp [blk]; exact hB.lt) (by simp)
 have hS := hS.add (blk_local c _ _) hC (by simp [blk]; exact hC.lt) (by simp [blk]; omega)
 conv=>whnf
 refine hS.ld 1 rfl (o := 4) rfl ?_
 cases hd : C.dead
 · rw [if_neg Bool.false_ne_true]
   by_cases hr : e < 0 ∨ e > 1073741824 ∨ l < 0 ∨ l > 1073741824
   · rw [if_pos hr]
     conv=>whnf
     refine brD (fun h1 => ?_) (fun h1 => ?_)
     · skip
       repeat' ((conv => whnf); first | refine RetC.mk ?_ | refine nzO ?_ | refine rgO ?_ | refine ixO ?_ | refine hS.ldr (hE.at_ 2 rfl) (fun h => h.elim (hE.ne 2 rfl hq) (hE.ne 2 rfl hqc)) ?_ | (first|apply brD|apply brND|apply brN|apply brI) <;> (intro))
       exact ⟨rfl, hS.ext, hS.blk 0 rfl, hS.blk 1 rfl⟩
     conv=>whnf
     refine brD (fun h2 => ?_) (fun h2 => ?_)
     · skip
       repeat' ((conv => whnf); first | refine RetC.mk ?_ | refine nzO ?_ | refine rgO ?_ | refine ixO ?_ | refine hS.ldr (hE.at_ 2 rfl) (fun h => h.elim (hE.ne 2 rfl hq) (hE.ne 2 rfl hqc)) ?_ | (first|apply brD|apply brND|apply brN|apply brI) <;> (intro))
       exact ⟨rfl, hS.ext, hS.blk 0 rfl, hS.blk 1 rfl⟩
     conv=>whnf
     refine brD (fun h3 => ?_) (fun h3 => ?_)
     · skip
       repeat' ((conv => whnf); first | refine RetC.mk ?_ | refine nzO ?_ | refine rgO ?_ | refine ixO ?_ | refine hS.ldr (hE.at_ 2 rfl) (fun h => h.elim (hE.ne 2 rfl hq) (hE.ne 2 rfl hqc)) ?_ | (first|apply brD|apply brND|apply brN|apply brI) <;> (intro))
       exact ⟨rfl, hS.ext, hS.blk 0 rfl, hS.blk 1 rfl⟩
     conv=>whnf
     refine brD (fun h4 => ?_) (fun h4 => absurd hr (by omega))
     repeat' ((conv => whnf); first | refine RetC.mk ?_ | refine nzO ?_ | refine rgO ?_ | refine ixO ?_ | refine hS.ldr (hE.at_ 2 rfl) (fun h => h.elim (hE.ne 2 rfl hq) (hE.ne 2 rfl hqc)) ?_ | (first|apply brD|apply brND|apply brN|apply brI) <;> (intro))
     exact ⟨rfl, hS.ext, hS.blk 0 rfl, hS.blk 1 rfl⟩
   rw [if_neg hr]
   conv=>whnf
   refine brD (fun h => absurd h (by omega)) (fun h1 => ?_)
   conv=>whnf
   refine brD (fun h => absurd h (by omega)) (fun h2 => ?_)
   conv=>whnf
   refine brD (fun h => absurd h (by omega)) (fun h3 => ?_)
   conv=>whnf
   refine brD (fun h => absurd h (by omega)) (fun h4 => ?_)
   obtain ⟨e, rfl⟩ := Int.eq_ofNat_of_zero_le (show 0 ≤ e by omega)
   obtain ⟨l, rfl⟩ := Int.eq_ofNat_of_zero_le (show 0 ≤ l by omega)
   simp only [Int.toNat_natCast]
   conv=>whnf
   refine hS.ld 1 rfl (o := 2) rfl ?_
   by_cases ho : (e : Int) < C.ep ∨ (l : Int) < C.li
   · rw [if_pos ho]
     conv=>whnf
     refine brD (fun h5 => ?_) (fun h5 => ?_)
     · skip
       repeat' ((conv => whnf); first | refine RetC.mk ?_ | refine nzO ?_ | refine rgO ?_ | refine ixO ?_ | refine hS.ldr (hE.at_ 10 rfl) (fun h => h.elim (hE.ne 10 rfl hq) (hE.ne 10 rfl hqc)) ?_ | (first|apply brD|apply brND|apply brN|apply brI) <;> (intro))
       exact ⟨rfl, hS.ext, hS.blk 0 rfl, hS.blk 1 rfl⟩
     conv=>whnf
     refine hS.ld 1 rfl (o := 3) rfl ?_
     conv=>whnf
     refine brD (fun h6 => ?_) (fun h6 => absurd ho (by omega))
     repeat' ((conv => whnf); first | refine RetC.mk ?_ | refine nzO ?_ | refine rgO ?_ | refine ixO ?_ | refine hS.ldr (hE.at_ 10 rfl) (fun h => h.elim (hE.ne 10 rfl hq) (hE.ne 10 rfl hqc)) ?_ | (first|apply brD|apply brND|apply brN|apply brI) <;> (intro))
     exact ⟨rfl, hS.ext, hS.blk 0 rfl, hS.blk 1 rfl⟩
   rw [if_neg ho]
   conv=>whnf
   refine brD (fun h => absurd h (by omega)) (fun h5 => ?_)
   conv=>whnf
   refine hS.ld 1 rfl (o := 3) rfl ?_
   conv=>whnf
   refine brD (fun h => absurd h (by omega)) (fun h6 => ?_)
   conv=>whnf
   refine hS.ld 1 rfl (o := 1) rfl ?_
   conv=>whnf
   refine rgO ?_
   conv=>whnf
   refine brD (fun h7 => ?_) (fun h7 => ?_)
   · rw [if_pos (show C.num + 1 ≥ 4294967296 by omega)]
     repeat' ((conv => whnf); first | refine RetC.mk ?_ | refine nzO ?_ | refine rgO ?_ | refine ixO ?_ | refine hS.ldr (hE.at_ 6 rfl) (fun h => h.elim (hE.ne 6 rfl hq) (hE.ne 6 rfl hqc)) ?_ | (first|apply brD|apply brND|apply brN|apply brI) <;> (intro))
     exact ⟨rfl, hS.ext, hS.blk 0 rfl, hS.blk 1 rfl⟩
   rw [if_neg (show ¬ C.num + 1 ≥ 4294967296 by omega)]
   conv=>whnf
   refine hS.ld 1 rfl (o := 1) rfl ?_
   conv=>whnf
   refine rgO ?_
   rw [show (C.num : Int) + 1 = ((C.num + 1 : Nat) : Int) by omega]
   conv=>whnf
   refine (cwrite_ok (C.num + 1) e l (by omega) (by omega) (by omega) (hS.blk 1 rfl) (hS.blk 0 rfl) hO ((hE.sub rfl).ext hS.ext fun k hk => hk.elim (fun h => by subst h; exact hq) fun h => by subst h; exact hqc) hq).mono ?_
   rintro v w' ⟨rfl, hx', hB'⟩
   replace hS := hS.upd 0 rfl hx' (fun c hc => by subst hc; exact List.mem_singleton.2 rfl) (blk_local _ _ _) hB' (fun c hc => .inl hc)
   clear hx' hB'
   generalize cwrite B (C.num + 1) e l = R at hS ⊢
   obtain ⟨ok, B2⟩ := R
   cases ok
   · (conv => whnf)
     refine hS.st 1 rfl (lbO rfl) rfl (fun w' hS => ?_)
     repeat' ((conv => whnf); first | refine RetC.mk ?_ | refine nzO ?_ | refine rgO ?_ | refine ixO ?_ | (first|apply brD|apply brND|apply brN|apply brI) <;> (intro))
     exact ⟨rfl, hS.ext, hS.blk 0 rfl, hS.blk 1 rfl⟩
   · skip
     conv=>whnf
     refine hS.ld 1 rfl (o := 1) rfl ?_
     conv=>whnf
     refine rgO ?_
     conv=>whnf
     refine hS.st 1 rfl (lbO rfl) rfl (fun w' hS => ?_)
     conv=>whnf
     refine hS.st 1 rfl (lbO rfl) rfl (fun w' hS => ?_)
     conv=>whnf
     refine hS.st 1 rfl (lbO rfl) rfl (fun w' hS => ?_)
     repeat' ((conv => whnf); first | refine RetC.mk ?_ | refine nzO ?_ | refine rgO ?_ | refine ixO ?_ | (first|apply brD|apply brND|apply brN|apply brI) <;> (intro))
     exact ⟨rfl, hS.ext, hS.blk 0 rfl, (hS.blk 1 rfl).to (by rw [← hd]; rfl)⟩
 · rw [if_pos rfl]
   repeat' ((conv => whnf); first | refine RetC.mk ?_ | refine nzO ?_ | refine rgO ?_ | refine ixO ?_ | refine hS.ldr (hE.at_ 7 rfl) (fun h => h.elim (hE.ne 7 rfl hq) (hE.ne 7 rfl hqc)) ?_ | (first|apply brD|apply brND|apply brN|apply brI) <;> (intro))
   exact ⟨rfl, hS.ext, hS.blk 0 rfl, hS.blk 1 rfl⟩
end
end Go.Proofs.YtogjajjdaoihdaaGreatDoor

namespace Go.Proofs.YtogjajjdaoihdaaGreatDoor
set_option maxRecDepth 20000
open Go Ev

def laid (d : List UInt8) (p : Nat) (s : List UInt8) : List UInt8 := d.take p ++ s ++ d.drop (p + s.length)
theorem laid_nil (d : List UInt8) (p : Nat) : laid d p [] = d := by simp [laid]
theorem laid_len {d s : List UInt8} {p : Nat} (h : p + s.length ≤ d.length) : (laid d p s).length = d.length := by
 simp only [laid, List.length_append, List.length_take, List.length_drop]
 omega
theorem laid_at {d s : List UInt8} {p : Nat} (h : p + s.length ≤ d.length) (i : Nat) : (laid d p s)[i]? = if p ≤ i ∧ i < p + s.length then s[i - p]? else d[i]? := by
 unfold laid
 by_cases h1 : i < p
 · rw [if_neg (by omega), List.append_assoc, List.getElem?_append_left (by rw [List.length_take]; omega), List.getElem?_take_of_lt h1]
 · by_cases h2 : i < p + s.length
   · rw [if_pos ⟨by omega, h2⟩, List.append_assoc, List.getElem?_append_right (by rw [List.length_take]; omega), List.length_take, Nat.min_eq_left (by omega), List.getElem?_append_left (by omega)]
   · rw [if_neg (by omega), List.getElem?_append_right (by simp only [List.length_append, List.length_take]; omega)]
     simp only [List.length_append, List.length_take, List.getElem?_drop]
     congr 1
     omega
theorem laid_cons {d r : List UInt8} {p : Nat} {x : UInt8} (h : p + (r.length + 1) ≤ d.length) : laid (d.set p x) (p + 1) r = laid d p (x :: r) := by
 apply List.ext_getElem?
 intro i
 rw [laid_at (by rw [List.length_set]; omega), laid_at (by rw [List.length_cons]; omega), List.length_cons, List.getElem?_set]
 by_cases h1 : p + 1 ≤ i ∧ i < p + 1 + r.length
 · rw [if_pos h1, if_pos (by omega), show i - p = (i - (p + 1)) + 1 by omega, List.getElem?_cons_succ]
 · rw [if_neg h1]
   by_cases h2 : p = i
   · subst h2
     rw [if_pos rfl, if_pos (by omega), if_pos (by omega), Nat.sub_self]
     rfl
   · rw [if_neg h2, if_neg (by omega)]
theorem write_law : ∀ (s : List UInt8) (B : BytS) (p : Nat), p + s.length ≤ B.data.length →
   ((B.write p s).1 = true ∧ (B.write p s).2.data = laid B.data p s ∧ (B.write p s).2.off = B.off) ∨ ((B.write p s).1 = false ∧ (B.write p s).2.off = true ∧ ∃ j, j < s.length ∧ (B.write p s).2.data = laid B.data p (s.take j))
 | [], B, p, _ => .inl ⟨rfl, (laid_nil _ _).symm, rfl⟩
 | x :: r, B, p, h => by
   rw [write_cons]
   rw [List.length_cons] at h
   split
   · exact .inr ⟨rfl, rfl, 0, by simp, by simp [laid_nil]⟩
   · rcases write_law r ⟨B.data.set p x, B.off, if B.left - 1 > -1 then B.left - 1 else -1⟩ (p + 1) (by dsimp only; rw [List.length_set]; omega) with ⟨h1, h2, h3⟩ | ⟨h1, h2, j, hj, h3⟩
     · exact .inl ⟨h1, by rw [h2]; exact laid_cons h, h3⟩
     · refine .inr ⟨h1, h2, j + 1, by simp; omega, ?_⟩
       rw [h3, List.take_succ_cons]
       exact laid_cons (by rw [List.length_take]; omega)

theorem recK_at {d : List UInt8} {k j : Nat} (hj : j < 17) : (recK d k)[j]? = d[k * 20 + j]? := by
 unfold recK
 rw [List.getElem?_take_of_lt hj, List.getElem?_drop]
theorem recK_ext {d d' : List UInt8} {k : Nat} (h : ∀ j, j < 17 → d[k * 20 + j]? = d'[k * 20 + j]?) : recK d k = recK d' k := by
 apply List.ext_getElem?
 intro j
 by_cases hj : j < 17
 · rw [recK_at hj, recK_at hj, h j hj]
 · unfold recK
   rw [List.getElem?_take, List.getElem?_take, if_neg hj, if_neg hj]
theorem full_ext {d d' : List UInt8} {k : Nat} (h : recK d k = recK d' k) : (fullK d k ↔ fullK d' k) ∧ recN d k = recN d' k ∧ recE d k = recE d' k ∧ recL d k = recL d' k := by
 unfold fullK recN recE recL
 rw [h]
 exact ⟨Iff.rfl, rfl, rfl, rfl⟩
theorem full_mark {d : List UInt8} {k : Nat} (h : fullK d k) : d[k * 20 + 16]? = some 165 := by
 rw [← recK_at (by omega), ← h.2.2, List.getElem?_append_right (by rw [bodyB_len]; omega), bodyB_len]
 rfl
theorem full_new {d : List UInt8} {k n e l : Nat} (h : recK d k = bodyB n e l ++ [165]) (hn : 1 ≤ n) (hk : n % 2 = k) (h1 : n < 4294967296) (h2 : e < 4294967296) (h3 : l < 4294967296) : fullK d k ∧ recN d k = n ∧ recE d k = e ∧ recL d k = l := by
 have e0 : bodyB n e l ++ [165] = numB n 4 ++ (numB e 4 ++ (numB l 4 ++ (numB (sumB (headB n e l)) 4 ++ [165]))) := by simp [bodyB, headB]
 have e1 : recN d k = n := by
   unfold recN
   rw [h, e0, List.take_left' (numB_len _ _), valB_num]
   omega
 have e2 : recE d k = e := by
   unfold recE
   rw [h, e0, List.drop_left' (numB_len _ _), List.take_left' (numB_len _ _), valB_num]
   omega
 have e3 : recL d k = l := by
   unfold recL
   rw [h, e0, ← List.append_assoc, List.drop_left' (by rw [List.length_append, numB_len, numB_len]), List.take_left' (numB_len _ _), valB_num]
   omega
 exact ⟨⟨by omega, by omega, by rw [e1, e2, e3, h]⟩, e1, e2, e3⟩

def rec_ (d : List UInt8) (k : Nat) : CelS := ⟨recN d k, recE d k, recL d k, false⟩
def zeroC : CelS := ⟨0, 0, 0, false⟩
theorem open_none {d : List UInt8} (h : ∀ k, k < 2 → ¬ fullK d k) : openS d = zeroC := by
 have h0 := h 0 (by omega)
 have h1 := h 1 (by omega)
 simp [openS, openN, openK, h0, h1, zeroC]
theorem open_one {d : List UInt8} {k m : Nat} (hkm : k < 2 ∧ m < 2 ∧ m ≠ k) (h : fullK d k) (hm : fullK d m → recN d m < recN d k) : openS d = rec_ d k := by
 have hn := h.1
 obtain ⟨hk, hm2, hne⟩ := hkm
 have : (k = 0 ∧ m = 1) ∨ (k = 1 ∧ m = 0) := by omega
 rcases this with ⟨rfl, rfl⟩ | ⟨rfl, rfl⟩
 · simp only [openS, openN]
   rw [show openK d 0 ⟨0, 0, 0, false⟩ = rec_ d 0 from if_pos ⟨h, hn⟩]
   exact if_neg fun hh => by have := hm hh.1; have := hh.2; simp only [rec_] at this; omega
 · simp only [openS, openN]
   by_cases h0 : fullK d 0
   · rw [show openK d 0 ⟨0, 0, 0, false⟩ = rec_ d 0 from if_pos ⟨h0, h0.1⟩]
     exact if_pos ⟨h, hm h0⟩
   · rw [show openK d 0 ⟨0, 0, 0, false⟩ = ⟨0, 0, 0, false⟩ from if_neg fun hh => h0 hh.1]
     exact if_pos ⟨h, hn⟩
theorem open_cases (d : List UInt8) : ((∀ k, k < 2 → ¬ fullK d k) ∧ openS d = zeroC) ∨ ∃ k m, (k < 2 ∧ m < 2 ∧ m ≠ k) ∧ fullK d k ∧ openS d = rec_ d k ∧ (fullK d m → recN d m < recN d k) := by
 by_cases h0 : fullK d 0
 · by_cases h1 : fullK d 1
   · have p0 := h0.2.1
     have p1 := h1.2.1
     by_cases hlt : recN d 1 < recN d 0
     · exact .inr ⟨0, 1, by omega, h0, open_one ⟨by omega, by omega, by omega⟩ h0 fun _ => hlt, fun _ => hlt⟩
     · have hlt : recN d 0 < recN d 1 := by omega
       exact .inr ⟨1, 0, by omega, h1, open_one ⟨by omega, by omega, by omega⟩ h1 fun _ => hlt, fun _ => hlt⟩
   · exact .inr ⟨0, 1, by omega, h0, open_one ⟨by omega, by omega, by omega⟩ h0 fun h => absurd h h1, fun h => absurd h h1⟩
 · by_cases h1 : fullK d 1
   · exact .inr ⟨1, 0, by omega, h1, open_one ⟨by omega, by omega, by omega⟩ h1 fun h => absurd h h0, fun h => absurd h h0⟩
   · have hn : ∀ k, k < 2 → ¬ fullK d k := fun k hk => by
       have : k = 0 ∨ k = 1 := by omega
       rcases this with rfl | rfl
       · exact h0
       · exact h1
     exact .inl ⟨hn, open_none hn⟩
theorem openS_dead (d : List UInt8) : (openS d).dead = false := by
 rcases open_cases d with ⟨_, h⟩ | ⟨k, m, _, _, h, _⟩ <;> rw [h] <;> rfl

theorem open_spoilt {d d' : List UInt8} {k m : Nat} (hk : k = ((openS d).num + 1) % 2) (hm : m = (openS d).num % 2) (h : recK d' m = recK d m) (hf : ¬ fullK d' k) : openS d' = openS d := by
 obtain ⟨f1, f2, f3, f4⟩ := full_ext h
 rcases open_cases d with ⟨hn, hz⟩ | ⟨k1, m1, hkm, hfull, ho, hlt⟩
 · rw [hz]
   refine open_none fun i hi hfi => ?_
   by_cases e : i = k
   · subst e; exact hf hfi
   · have : i = m := by omega
     subst this
     exact hn i hi (f1.1 hfi)
 · have hp := hfull.2.1
   have hnum : (openS d).num = recN d k1 := by rw [ho]; rfl
   obtain rfl : m = k1 := by omega
   have hfm := f1.2 hfull
   have hkk : k < 2 ∧ k ≠ m := by omega
   rw [open_one (m := k) ⟨by omega, hkk.1, hkk.2⟩ hfm fun hh => absurd hh hf, ho]
   unfold rec_
   rw [f2, f3, f4]
theorem open_written {d d' : List UInt8} {k m n e l : Nat} (hn : n = (openS d).num + 1) (hk : k = n % 2) (hm : m = (openS d).num % 2) (h : recK d' m = recK d m) (hr : recK d' k = bodyB n e l ++ [165]) (h1 : n < 4294967296) (h2 : e < 4294967296) (h3 : l < 4294967296) : openS d' = ⟨n, e, l, false⟩ := by
 obtain ⟨f1, f2, f3, f4⟩ := full_ext h
 obtain ⟨g1, g2, g3, g4⟩ := full_new hr (by omega) hk.symm h1 h2 h3
 have hkm : m < 2 ∧ m ≠ k := by omega
 rw [open_one (m := m) ⟨by omega, hkm.1, hkm.2⟩ g1 fun hh => ?_]
 · unfold rec_
   rw [g2, g3, g4]
 · rw [g2, f2]
   have hh := f1.1 hh
   rcases open_cases d with ⟨hn2, _⟩ | ⟨k1, m1, hkm1, hfull, ho, hlt⟩
   · exact absurd hh (hn2 m (by omega))
   · have hnum : (openS d).num = recN d k1 := by rw [ho]; rfl
     by_cases e : m = k1
     · subst e; omega
     · obtain rfl : m = m1 := by omega
       have := hlt hh
       omega

theorem mark_law {B : BytS} {q : Nat} (hq : q < B.data.length) :
   ((mark B q).1 = true ∧ (mark B q).2.off = B.off ∧ (mark B q).2.data.length = B.data.length ∧ (mark B q).2.data[q]? = some 0 ∧ ∀ i, i ≠ q → (mark B q).2.data[i]? = B.data[i]?) ∨ ((mark B q).1 = false ∧ (mark B q).2.off = true ∧ (mark B q).2.data = B.data) := by
 obtain ⟨x, hx⟩ : ∃ x, B.data[q]? = some x := ⟨_, List.getElem?_eq_getElem hq⟩
 unfold mark
 rw [hx]
 dsimp only
 split
 · rename_i h0
   exact .inl ⟨rfl, rfl, rfl, by rw [← h0]; exact hx, fun _ _ => rfl⟩
 · rcases write_law [0] B q (by simp; omega) with ⟨h1, h2, h3⟩ | ⟨h1, h2, j, hj, h3⟩
   · refine .inl ⟨h1, h3, by rw [h2, laid_len (by simp; omega)], ?_, fun i hi => ?_⟩
     · rw [h2, laid_at (by simp; omega), if_pos (by simp), Nat.sub_self]
       rfl
     · rw [h2, laid_at (by simp; omega), if_neg (by simp; omega)]
   · refine .inr ⟨h1, h2, ?_⟩
     obtain rfl : j = 0 := by simpa using hj
     rw [h3, List.take_zero, laid_nil]
theorem not_full {d : List UInt8} {k : Nat} (h : d[k * 20 + 16]? = some 0) : ¬ fullK d k := fun hf => by
 rw [full_mark hf] at h
 simp at h
theorem cwrite_law {B : BytS} {e l : Nat} (hO : BOk B) (hoff : B.off = false) (hn : (openS B.data).num + 1 < 4294967296) (he : e < 4294967296) (hl : l < 4294967296) :
   ((cwrite B ((openS B.data).num + 1) e l).1 = true ∧ openS (cwrite B ((openS B.data).num + 1) e l).2.data = ⟨(openS B.data).num + 1, e, l, false⟩ ∧ (cwrite B ((openS B.data).num + 1) e l).2.off = false) ∨
   ((cwrite B ((openS B.data).num + 1) e l).1 = false ∧ openS (cwrite B ((openS B.data).num + 1) e l).2.data = openS B.data ∧ (cwrite B ((openS B.data).num + 1) e l).2.off = true) := by
 have hlen := hO.len
 obtain ⟨n, hnn⟩ : ∃ n, n = (openS B.data).num + 1 := ⟨_, rfl⟩
 obtain ⟨k, hk⟩ : ∃ k, k = n % 2 := ⟨_, rfl⟩
 obtain ⟨m, hm⟩ : ∃ m, m = (openS B.data).num % 2 := ⟨_, rfl⟩
 rw [← hnn] at hn ⊢
 have hkm : k < 2 ∧ m < 2 ∧ m ≠ k := by omega
 have hbl := bodyB_len n e l
 unfold cwrite
 rw [if_neg (show ¬ B.off = true by simp [hoff]), ← hk]
 have same : ∀ d : List UInt8, (∀ i, ¬ (k * 20 ≤ i ∧ i < k * 20 + 17) → d[i]? = B.data[i]?) → recK d m = recK B.data m := fun d h => recK_ext fun j hj => h _ (by omega)
 rcases mark_law (B := B) (q := k * 20 + 16) (by omega) with ⟨a1, a2, a3, a4, a5⟩ | ⟨a1, a2, a3⟩
 · rw [if_pos a1]
   generalize (mark B (k * 20 + 16)).2 = B1 at a2 a3 a4 a5
   rcases write_law (bodyB n e l) B1 (k * 20) (by omega) with ⟨b1, b2, b3⟩ | ⟨b1, b2, j, hj, b3⟩
   · rw [if_pos b1]
     generalize (B1.write (k * 20) (bodyB n e l)).2 = B2 at b2 b3
     have c0 : ∀ i, B2.data[i]? = if k * 20 ≤ i ∧ i < k * 20 + 16 then (bodyB n e l)[i - k * 20]? else B1.data[i]? := fun i => by rw [b2, laid_at (by omega), hbl]
     have c1 : B2.data.length = 64 := by rw [b2, laid_len (by omega), a3, hlen]
     rcases write_law [165] B2 (k * 20 + 16) (by simp; omega) with ⟨d1, d2, d3⟩ | ⟨d1, d2, j, hj, d3⟩
     · refine .inl ⟨d1, ?_, by rw [d3, b3, a2, hoff]⟩
       rw [d2]
       refine open_written hnn hk hm (same _ fun i hi => ?_) ?_ hn he hl
       · rw [laid_at (by simp; omega), if_neg (by simp; omega), c0, if_neg (by omega), a5 i (by omega)]
       · apply List.ext_getElem?
         intro j
         by_cases hj : j < 17
         · rw [recK_at hj, laid_at (by simp; omega)]
           by_cases hj2 : j = 16
           · subst hj2
             rw [if_pos (by simp), List.getElem?_append_right (by omega), hbl]
             simp
           · rw [if_neg (by simp; omega), c0, if_pos (by omega), List.getElem?_append_left (by omega)]
             congr 1
             omega
         · rw [List.getElem?_eq_none (by unfold recK; rw [List.length_take]; omega), List.getElem?_eq_none (by rw [List.length_append, hbl]; simp; omega)]
     · refine .inr ⟨d1, ?_, d2⟩
       obtain rfl : j = 0 := by simpa using hj
       rw [d3, List.take_zero, laid_nil]
       refine open_spoilt (hnn ▸ hk) hm (same _ fun i hi => ?_) (not_full ?_)
       · rw [c0, if_neg (by omega), a5 i (by omega)]
       · rw [c0, if_neg (by omega), a4]
   · rw [if_neg (by simp [b1])]
     refine .inr ⟨rfl, ?_, b2⟩
     dsimp only
     have hjl : (List.take j (bodyB n e l)).length = j := by rw [List.length_take]; omega
     rw [b3]
     refine open_spoilt (hnn ▸ hk) hm (same _ fun i hi => ?_) (not_full ?_)
     · rw [laid_at (by omega), if_neg (by omega), a5 i (by omega)]
     · rw [laid_at (by omega), if_neg (by omega), a4]
 · rw [if_neg (by simp [a1])]
   exact .inr ⟨rfl, by rw [a3], a2⟩
end Go.Proofs.YtogjajjdaoihdaaGreatDoor

namespace Go.Proofs.YtogjajjdaoihdaaGreatDoor
set_option maxRecDepth 20000
open Go Ev

structure PktS where
 proto : Int
 sa : Int
 sp : Int
 da : Int
 dp : Int
 flags : Int
deriving DecidableEq
def encPkt (p : PktS) : List Value := [.int .i64 p.proto, .int .i64 p.sa, .int .i64 p.sp, .int .i64 p.da, .int .i64 p.dp, .int .i64 p.flags]
def noPkt : PktS := ⟨0, 0, 0, 0, 0, 0⟩
def endB (a p : Int) : Bool := decide (0 ≤ a ∧ a ≤ 1048576 ∧ 1 ≤ p ∧ p ≤ 65535)
def PktS.bad (p : PktS) : Bool := decide ((p.proto ≠ 1 ∧ p.proto ≠ 2) ∨ endB p.sa p.sp = false ∨ endB p.da p.dp = false ∨ p.flags < 0 ∨ p.flags > 15)
def PktS.err (p : PktS) : Nat := if p.bad = true then 2 else if p.proto = 1 ∧ p.flags ≠ 0 then 3 else 0
theorem PktS.err_code (p : PktS) : p.err < 12 := by
 unfold PktS.err
 split
 · omega
 · split <;> omega

theorem end_ok (a p : Int) (w : World) : CallC Tryz.prog 183 #[.agg #[.int .i64 a, .int .i64 p]] w fun v w' => v = .bool (endB a p) ∧ Ext No w w' := by
 refine fn_intro tabOk Tryz.func183 (by kernel_rfl) rfl Tryz.ntmps183 (lbO rfl) ?_
 have hS := St.start w No
 conv=>whnf
 refine hS.new (fun b w' hb hS => ?_)
 replace hS : St w No w' [blk b 39 [.int .i64 a, .int .i64 p]] := hS
 repeat' ((conv => whnf); first | refine RetC.mk ?_ | refine nzO ?_ | refine rgO ?_ | refine ixO ?_ | refine hS.ld 0 rfl rfl ?_ | refine hS.laX 0 rfl rfl ?_ | (first|apply brD|apply brND|apply brN|apply brI) <;> (intro))
 all_goals refine ⟨congrArg Value.bool (Bool.eq_iff_iff.2 ?_), hS.ext⟩
 all_goals simp [endB]
 all_goals omega
theorem isEnd_ok (a p : Int) (w : World) : CallC Tryz.prog 90 #[.agg #[.int .i64 a, .int .i64 p]] w fun v w' => v = .bool (endB a p) ∧ Ext No w w' := by
 refine fn_intro tabOk Tryz.func90 (by kernel_rfl) rfl Tryz.ntmps90 (lbO rfl) ?_
 have hS := St.start w No
 conv=>whnf
 refine hS.new (fun b w' hb hS => ?_)
 replace hS : St w No w' [blk b 39 [.int .i64 a, .int .i64 p]] := hS
 repeat' ((conv => whnf); first | refine RetC.mk ?_ | refine nzO ?_ | refine rgO ?_ | refine ixO ?_ | refine hS.ld 0 rfl rfl ?_ | refine hS.laX 0 rfl rfl ?_ | (first|apply brD|apply brND|apply brN|apply brI) <;> (intro))
 all_goals refine ⟨congrArg Value.bool (Bool.eq_iff_iff.2 ?_), hS.ext⟩
 all_goals simp [endB]
 all_goals omega
theorem pcheck_ok {E : Nat → Addr} {n : Nat} (p : PktS) (w : World) (hE : Errs w E n [2, 3]) : CallC Tryz.prog 88 #[.agg (encPkt p).toArray] w fun v w' => v = errV E p.err ∧ Ext No w w' := by
 have hbad : p.bad = decide ((p.proto ≠ 1 ∧ p.proto ≠ 2) ∨ endB p.sa p.sp = false ∨ endB p.da p.dp = false ∨ p.flags < 0 ∨ p.flags > 15) := rfl
 refine fn_intro tabOk Tryz.func88 (by kernel_rfl) rfl Tryz.ntmps88 (lbO rfl) ?_
 have hS := St.start w No
 conv=>whnf
 refine hS.new (fun b w' hb hS => ?_)
 replace hS : St w No w' [blk b 41 (encPkt p)] := hS
 unfold PktS.err
 generalize hs : endB p.sa p.sp = s1 at hbad
 generalize hd : endB p.da p.dp = d1 at hbad
 repeat' ((conv => whnf); first | refine RetC.mk ?_ | refine nzO ?_ | refine rgO ?_ | refine ixO ?_ | refine hS.ld 0 rfl rfl ?_ | refine hS.laX 0 rfl rfl ?_ | (refine (end_ok p.sa p.sp _).mono ?_; rintro v w' ⟨rfl, hx'⟩; replace hS := hS.no hx'; clear hx'; rw [hs]) | (refine (end_ok p.da p.dp _).mono ?_; rintro v w' ⟨rfl, hx'⟩; replace hS := hS.no hx'; clear hx'; rw [hd]) | refine hS.ldr (hE.at_ 2 rfl) id ?_ | refine hS.ldrF (hE.at_ 2 rfl) id id ?_ | refine hS.ldr (hE.at_ 3 rfl) id ?_ | refine hS.ldrF (hE.at_ 3 rfl) id id ?_ | (first|apply brD|apply brND|apply brN|apply brI) <;> (intro))
 all_goals refine ⟨?_, hS.ext⟩
 all_goals clear hS
 all_goals rw [hbad]
 all_goals clear hbad hs hd
 all_goals (repeat' split) <;> first | rfl | (exfalso; simp_all; done) | (exfalso; simp_all; omega)
theorem perror_ok (p : PktS) (w : World) : CallC Tryz.prog 45 #[.agg (encPkt p).toArray] w fun v w' => v = .int .i64 (p.err : Nat) ∧ Ext No w w' := by
 have hbad : p.bad = decide ((p.proto ≠ 1 ∧ p.proto ≠ 2) ∨ endB p.sa p.sp = false ∨ endB p.da p.dp = false ∨ p.flags < 0 ∨ p.flags > 15) := rfl
 refine fn_intro tabOk Tryz.func45 (by kernel_rfl) rfl Tryz.ntmps45 (lbO rfl) ?_
 have hS := St.start w No
 conv=>whnf
 refine hS.new (fun b w' hb hS => ?_)
 replace hS : St w No w' [blk b 41 (encPkt p)] := hS
 unfold PktS.err
 generalize hs : endB p.sa p.sp = s1 at hbad
 generalize hd : endB p.da p.dp = d1 at hbad
 repeat' ((conv => whnf); first | refine RetC.mk ?_ | refine nzO ?_ | refine rgO ?_ | refine ixO ?_ | refine hS.ld 0 rfl rfl ?_ | refine hS.laX 0 rfl rfl ?_ | (refine (isEnd_ok p.sa p.sp _).mono ?_; rintro v w' ⟨rfl, hx'⟩; replace hS := hS.no hx'; clear hx'; rw [hs]) | (refine (isEnd_ok p.da p.dp _).mono ?_; rintro v w' ⟨rfl, hx'⟩; replace hS := hS.no hx'; clear hx'; rw [hd]) | (first|apply brD|apply brND|apply brN|apply brI) <;> (intro))
 all_goals refine ⟨?_, hS.ext⟩
 all_goals clear hS
 all_goals rw [hbad]
 all_goals clear hbad hs hd
 all_goals (repeat' split) <;> first | rfl | (exfalso; simp_all; done) | (exfalso; simp_all; omega)
end Go.Proofs.YtogjajjdaoihdaaGreatDoor

namespace Go.Proofs.YtogjajjdaoihdaaGreatDoor
set_option maxRecDepth 20000
open Go Ev

structure RuleS where
 allow : Bool
 out : Bool
 proto : Int
 low : Int
 top : Int
deriving DecidableEq
def encRule (r : RuleS) : List Value := [.bool r.allow, .bool r.out, .int .i64 r.proto, .int .i64 r.low, .int .i64 r.top]
theorem codRule : Codec 5 encRule := ⟨fun _ => rfl, fun _ => rfl, by decide⟩
def noRule : RuleS := ⟨false, false, 0, 0, 0⟩
def RuleS.bad (r : RuleS) : Bool := decide (r.proto < 0 ∨ r.proto > 2 ∨ r.low < 1 ∨ r.low > r.top ∨ r.top > 65535)
def RuleS.fits (r : RuleS) (proto port : Int) (out : Bool) : Bool := decide (r.out = out ∧ (r.proto = 0 ∨ r.proto = proto) ∧ r.low ≤ port ∧ port ≤ r.top)
def admitsL (proto port : Int) (out : Bool) : List RuleS → Bool
 | [] => false
 | r :: l => match r.fits proto port out with
   | true => r.allow
   | false => admitsL proto port out l
theorem admits_step {proto port : Int} {out : Bool} {l : List RuleS} {k : Nat} {r : RuleS} (h : l[k]? = some r) : admitsL proto port out (l.drop k) = match r.fits proto port out with | true => r.allow | false => admitsL proto port out (l.drop (k + 1)) := by
 obtain ⟨lt, e⟩ := List.getElem?_eq_some_iff.1 h
 rw [List.drop_eq_getElem_cons lt, e]
 rfl
def badI : List RuleS → Nat → Int
 | [], _ => -1
 | r :: l, k => match r.bad with
   | true => (k : Int)
   | false => badI l (k + 1)
theorem badI_step {l : List RuleS} {k : Nat} {r : RuleS} (h : l[k]? = some r) : badI (l.drop k) k = match r.bad with | true => (k : Int) | false => badI (l.drop (k + 1)) (k + 1) := by
 obtain ⟨lt, e⟩ := List.getElem?_eq_some_iff.1 h
 rw [List.drop_eq_getElem_cons lt, e]
 rfl
theorem badI_neg : ∀ (l : List RuleS) (k : Nat), badI l k < 0 ↔ ∀ r ∈ l, r.bad = false
 | [], k => by simp [badI]
 | r :: l, k => by
   unfold badI
   cases h : r.bad
   · simp [h, badI_neg l (k + 1)]
   · simp [h]
theorem badI_ge : ∀ (l : List RuleS) (k : Nat), -1 ≤ badI l k ∧ badI l k < k + l.length
 | [], k => by simp [badI]; omega
 | r :: l, k => by
   unfold badI
   have := badI_ge l (k + 1)
   cases h : r.bad
   all_goals simp only [List.length_cons]
   all_goals omega
def faultL (l : List RuleS) : Nat × Int := if l.length > 20 then (2, -1) else if badI l 0 < 0 then (0, -1) else (2, badI l 0)
def GoodR (l : List RuleS) : Prop := l.length ≤ 20 ∧ ∀ r ∈ l, r.bad = false
instance (l : List RuleS) : Decidable (GoodR l) := by unfold GoodR; infer_instance
theorem fault_good {l : List RuleS} : (faultL l).1 = 0 ↔ GoodR l := by
 unfold faultL GoodR
 split
 · simp
   omega
 · split
   · rename_i h1 h2
     simp only [true_iff]
     exact ⟨by omega, (badI_neg l 0).1 h2⟩
   · rename_i h1 h2
     simp only [Nat.reduceEqDiff, false_iff]
     rintro ⟨_, h⟩
     exact h2 ((badI_neg l 0).2 h)
theorem fault_code (l : List RuleS) : (faultL l).1 = 0 ∧ (faultL l).2 = -1 ∨ (faultL l).1 = 2 ∧ (faultL l).2 = -1 ∨ (faultL l).1 = 2 ∧ 0 ≤ (faultL l).2 := by
 unfold faultL
 split
 · exact .inr (.inl ⟨rfl, rfl⟩)
 · split
   · exact .inl ⟨rfl, rfl⟩
   · exact .inr (.inr ⟨rfl, by dsimp only; omega⟩)

def FaultV (E : Nat → Addr) (w0 w : World) (v : Value) (c : Nat) (a : Int) : Prop :=
 (a = -1 ∧ v = errV E c) ∨ (0 ≤ a ∧ 0 < c ∧ ∃ f, v = .iface 143 (.pointer (some ⟨f, 0, none⟩)) ∧ w0.heap.size ≤ f ∧ Blk w f 147 [.int .i64 a, errV E c])
theorem FaultV.older {E : Nat → Addr} {w0 w1 w : World} {v : Value} {c : Nat} {a : Int} (h : FaultV E w1 w v c a) (hle : w0.heap.size ≤ w1.heap.size) : FaultV E w0 w v c a := by
 rcases h with h | ⟨h1, h2, f, h3, h4, h5⟩
 · exact .inl h
 · exact .inr ⟨h1, h2, f, h3, Nat.le_trans hle h4, h5⟩
theorem FaultV.ne {E : Nat → Addr} {w0 w : World} {v : Value} {c : Nat} {a : Int} (h : FaultV E w0 w v (c + 1) a) : ∃ t u, v = .iface t u := by
 rcases h with ⟨_, h⟩ | ⟨_, _, f, h, _⟩
 · exact ⟨_, _, h⟩
 · exact ⟨_, _, h⟩

section
variable {w : World} {G : RuleS → Prop} {a b : Option Addr} {n m c d : Nat} {xs ys : List RuleS}
theorem chk1_ok (r : RuleS) (w : World) : CallC Tryz.prog 118 ([Value.agg (encRule r).toArray] ++ []).toArray w fun v w' => v = .bool r.bad ∧ Ext No w w' := by
 refine fn_intro tabOk Tryz.func118 (by kernel_rfl) rfl Tryz.ntmps118 (lbO rfl) ?_
 have hS := St.start w No
 conv=>whnf
 refine hS.new (fun b w' hb hS => ?_)
 replace hS : St w No w' [blk b 98 (encRule r)] := hS
 repeat' ((conv => whnf); first | refine RetC.mk ?_ | refine nzO ?_ | refine rgO ?_ | refine ixO ?_ | refine hS.ld 0 rfl rfl ?_ | refine hS.laX 0 rfl rfl ?_ | (first|apply brD|apply brND|apply brN|apply brI) <;> (intro))
 all_goals refine ⟨congrArg Value.bool (Bool.eq_iff_iff.2 ?_), hS.ext⟩
 all_goals simp [RuleS.bad]
 all_goals omega
theorem idxRule_ok (hx : Slc w 5 encRule G a n xs) :
   CallC Tryz.prog 117 #[.slice a n c, .func (.func 118) #[] #[]] w fun v w' => v = .int .i64 (badI xs 0) ∧ Ext No w w' := by
 have hm := hx.max
 have hl := hx.len
 refine fn_intro tabOk Tryz.func117 (by kernel_rfl) rfl Tryz.ntmps117 (lbO rfl) ?_
 have hS := St.start w No
 conv=>whnf
 refine loopR tabOk (fun σ w' q => ∃ k : Nat, σ = [(8, .int .i64 (k : Int)), (7, .int .i64 n), (1, .func (.func 118) #[] #[]), (0, .slice a n c)] ∧ q = n - k ∧ k ≤ n ∧ St w No w' [] ∧ badI xs 0 = badI (xs.drop k) k)
   (σ' := [(8, .int .i64 ((0 : Nat) : Int)), (7, .int .i64 n), (1, .func (.func 118) #[] #[]), (0, .slice a n c)]) (n := n) ⟨rfl, rfl, rfl, rfl, trivial⟩ ⟨0, rfl, rfl, Nat.zero_le _, hS, by simp⟩ ?_
 clear hS
 rintro _ w1 q ⟨k, rfl, rfl, hk, hS, hi⟩
 conv=>whnf
 refine brD (fun h3 => ?_) (fun h3 => ?_)
 · obtain ⟨b0, o0, x, hxk, hgx, rfl, _, hc⟩ := hx.at (k := k) (by omega)
   have hst := badI_step hxk
   conv=>whnf
   refine ixO ?_
   conv=>whnf
   refine hS.lar (l := encRule x) rfl hc id ?_
   conv=>whnf
   refine (chk1_ok x _).mono ?_
   rintro v w' ⟨rfl, hx'⟩
   replace hS := hS.no hx'
   clear hx'
   conv=>whnf
   refine brI (fun h4 => ?_) (fun h4 => ?_)
   · repeat' ((conv => whnf); first | refine RetC.mk ?_ | refine nzO ?_ | refine rgO ?_ | refine ixO ?_ | (first|apply brD|apply brND|apply brN|apply brI) <;> (intro))
     rw [hi, hst, h4]
     exact ⟨rfl, hS.ext⟩
   · (conv => whnf)
     refine rgO ?_
     conv=>whnf
     refine LoopE.mk ⟨_, [(8, .int .i64 ((k + 1 : Nat) : Int)), (7, _), (1, _), (0, _)], ?_, ⟨rfl, rfl, rfl, rfl, trivial⟩, ⟨k + 1, rfl, rfl, by omega, hS, by rw [hi, hst, h4]⟩⟩
     omega
 · repeat' ((conv => whnf); first | refine RetC.mk ?_ | refine nzO ?_ | refine rgO ?_ | refine ixO ?_ | (first|apply brD|apply brND|apply brN|apply brI) <;> (intro))
   have : k = n := by omega
   subst this
   rw [hi, List.drop_of_length_le (by omega)]
   exact ⟨rfl, hS.ext⟩
theorem rcheck_ok {E : Nat → Addr} {q : Nat} (hx : Slc w 5 encRule G a n xs) (hE : Errs w E q [2]) :
   CallC Tryz.prog 66 #[.slice a n c] w fun v w' => FaultV E w w' v (faultL xs).1 (faultL xs).2 ∧ Ext No w w' := by
 have hl := hx.len
 have hge := badI_ge xs 0
 unfold faultL
 refine fn_intro tabOk Tryz.func66 (by kernel_rfl) rfl Tryz.ntmps66 (lbO rfl) ?_
 have hS := St.start w No
 conv=>whnf
 refine brD (fun h1 => ?_) (fun h1 => ?_)
 · rw [if_pos (by omega)]
   repeat' ((conv => whnf); first | refine RetC.mk ?_ | refine nzO ?_ | refine rgO ?_ | refine ixO ?_ | refine hS.ldr (hE.at_ 2 rfl) id ?_ | refine hS.ldrF (hE.at_ 2 rfl) id id ?_ | (first|apply brD|apply brND|apply brN|apply brI) <;> (intro))
   exact ⟨.inl ⟨rfl, rfl⟩, hS.ext⟩
 rw [if_neg (by omega)]
 conv=>whnf
 refine (idxRule_ok hx).mono ?_
 rintro v w' ⟨rfl, hx'⟩
 replace hS := hS.no hx'
 conv=>whnf
 refine brD (fun h2 => ?_) (fun h2 => ?_)
 · rw [if_neg (by omega)]
   repeat' ((conv => whnf); first | refine RetC.mk ?_ | refine nzO ?_ | refine rgO ?_ | refine ixO ?_ | refine hS.ldr (hE.at_ 2 rfl) id ?_ | refine hS.ldrF (hE.at_ 2 rfl) id id ?_ | refine hS.new (fun f w' hf hS => ?_) | (first|apply brD|apply brND|apply brN|apply brI) <;> (intro))
   exact ⟨.inr ⟨by dsimp only; omega, by dsimp only; omega, f, rfl, hf, hS.blk 0 rfl⟩, hS.ext⟩
 · rw [if_pos (by omega)]
   repeat' ((conv => whnf); first | refine RetC.mk ?_ | refine nzO ?_ | refine rgO ?_ | refine ixO ?_ | (first|apply brD|apply brND|apply brN|apply brI) <;> (intro))
   exact ⟨.inl ⟨rfl, rfl⟩, hS.ext⟩
theorem admits_ok (hx : Slc w 5 encRule G a n xs) (proto port : Int) (out : Bool) :
   CallC Tryz.prog 328 #[.slice a n c, .int .i64 proto, .int .i64 port, .bool out] w fun v w' => v = .bool (admitsL proto port out xs) ∧ Ext No w w' := by
 have hm := hx.max
 have hl := hx.len
 refine fn_intro tabOk Tryz.func328 (by kernel_rfl) rfl Tryz.ntmps328 (lbO rfl) ?_
 have hS := St.start w No
 conv=>whnf
 refine loopR tabOk (fun σ w' q => ∃ k : Nat, σ = [(13, .int .i64 (k : Int)), (12, .int .i64 n), (11, .slice a n c), (3, .bool out), (2, .int .i64 port), (1, .int .i64 proto)] ∧ q = n - k ∧ k ≤ n ∧ St w No w' [] ∧ admitsL proto port out xs = admitsL proto port out (xs.drop k))
   (σ' := [(13, .int .i64 ((0 : Nat) : Int)), (12, .int .i64 n), (11, .slice a n c), (3, .bool out), (2, .int .i64 port), (1, .int .i64 proto)]) (n := n) ⟨rfl, rfl, rfl, rfl, rfl, rfl, trivial⟩ ⟨0, rfl, rfl, Nat.zero_le _, hS, by simp⟩ ?_
 clear hS
 rintro _ w1 q ⟨k, rfl, rfl, hk, hS, hi⟩
 conv=>whnf
 refine brD (fun h3 => ?_) (fun h3 => ?_)
 · obtain ⟨b0, o0, x, hxk, hgx, rfl, _, hc⟩ := hx.at (k := k) (by omega)
   have hst := admits_step (proto := proto) (port := port) (out := out) hxk
   conv=>whnf
   refine ixO ?_
   conv=>whnf
   refine hS.lar (l := encRule x) rfl hc id ?_
   conv=>whnf
   refine hS.new (fun bx w' hb hS => ?_)
   conv=>whnf
   refine hS.st 0 rfl (lbO rfl) rfl (fun w' hS => ?_)
   replace hS : St w No w' [blk bx 98 (encRule x)] := hS
   have yes : x.fits proto port out = true → admitsL proto port out xs = x.allow := fun h => by rw [hi, hst, h]
   have no : x.fits proto port out = false → admitsL proto port out xs = admitsL proto port out (xs.drop (k + 1)) := fun h => by rw [hi, hst, h]
   clear hi hst
   repeat' ((conv => whnf); first | refine RetC.mk ?_ | refine nzO ?_ | refine rgO ?_ | refine ixO ?_ | refine hS.ld 0 rfl rfl ?_ | refine hS.laX 0 rfl rfl ?_ | (first|apply brD|apply brND|apply brN|apply brI) <;> (intro))
   all_goals first
     | (refine ⟨congrArg Value.bool (yes ?_).symm, hS.ext⟩; clear hS yes no; simp_all [RuleS.fits] <;> intros <;> omega)
     | (replace no := no (by clear hS yes no; simp_all [RuleS.fits] <;> intros <;> omega); clear yes; refine LoopE.mk ⟨_, [(13, .int .i64 ((k + 1 : Nat) : Int)), (12, _), (11, _), (3, _), (2, _), (1, _)], ?_, ⟨rfl, rfl, rfl, rfl, rfl, rfl, trivial⟩, ⟨k + 1, rfl, rfl, by omega, hS.keep 0, no⟩⟩; omega)
     | trace_state
 · repeat' ((conv => whnf); first | refine RetC.mk ?_ | refine nzO ?_ | refine rgO ?_ | refine ixO ?_ | (first|apply brD|apply brND|apply brN|apply brI) <;> (intro))
   have : k = n := by omega
   subst this
   rw [hi, List.drop_of_length_le (by omega)]
   exact ⟨rfl, hS.ext⟩
theorem admitsP_ok {E : Nat → Addr} {q : Nat} (hx : Slc w 5 encRule G a n xs) (p : PktS) (out : Bool) (hE : Errs w E q [2, 3]) :
   CallC Tryz.prog 295 #[.slice a n c, .agg (encPkt p).toArray, .bool out] w fun v w' => (∃ e, v = .tuple #[.bool (decide (GoodR xs ∧ p.err = 0) && admitsL p.proto p.dp out xs), e] ∧ FaultV E w w' e (if (faultL xs).1 = 0 then p.err else (faultL xs).1) (if (faultL xs).1 = 0 then -1 else (faultL xs).2)) ∧ Ext No w w' := by
 have hg := @fault_good xs
 have hcd := fault_code xs
 refine fn_intro tabOk Tryz.func295 (by kernel_rfl) rfl Tryz.ntmps295 (lbO rfl) ?_
 have hS := St.start w No
 conv=>whnf
 refine hS.new (fun bp w' hbp hS => ?_)
 replace hS : St w No w' [blk bp 41 (encPkt p)] := hS
 conv=>whnf
 refine (rcheck_ok (hx.no hS.ext) ((hE.sub rfl).ext hS.ext fun _ h => h.elim)).mono ?_
 rintro v w2 ⟨hf, hx'⟩
 have hle := hS.ext.size
 replace hS := hS.no hx'
 generalize hfl : faultL xs = F at hf hg hcd
 obtain ⟨fc, fa⟩ := F
 dsimp only at hf hg hcd ⊢
 cases fc with
 | succ j =>
   rw [if_neg (by omega), if_neg (by omega), decide_eq_false (fun h => by have := hg.2 h.1; omega)]
   obtain ⟨t, u, rfl⟩ := hf.ne
   repeat' ((conv => whnf); first | refine RetC.mk ?_ | refine nzO ?_ | refine rgO ?_ | refine ixO ?_ | (first|apply brD|apply brND|apply brN|apply brI) <;> (intro))
   refine ⟨⟨_, rfl, ?_⟩, hS.ext⟩
   exact hf.older hle
 | zero =>
   have hgr : GoodR xs := hg.1 rfl
   rw [if_pos rfl, if_pos rfl]
   obtain rfl : v = .nilIface := by
     rcases hf with ⟨_, h⟩ | ⟨_, h, _⟩
     · exact h
     · omega
   conv=>whnf
   refine hS.laX 0 rfl rfl ?_
   conv=>whnf
   refine (pcheck_ok p _ (hE.ext hS.ext fun _ h => h.elim)).mono ?_
   rintro v w3 ⟨rfl, hx'⟩
   replace hS := hS.no hx'
   cases hpe : p.err with
   | succ j =>
     rw [decide_eq_false (by omega)]
     repeat' ((conv => whnf); first | refine RetC.mk ?_ | refine nzO ?_ | refine rgO ?_ | refine ixO ?_ | (first|apply brD|apply brND|apply brN|apply brI) <;> (intro))
     exact ⟨⟨_, rfl, .inl ⟨rfl, rfl⟩⟩, hS.ext⟩
   | zero =>
     rw [decide_eq_true ⟨hgr, rfl⟩, Bool.true_and]
     repeat' ((conv => whnf); first | refine RetC.mk ?_ | refine nzO ?_ | refine rgO ?_ | refine ixO ?_ | refine hS.ld 0 rfl rfl ?_ | refine hS.laX 0 rfl rfl ?_ | (first|apply brD|apply brND|apply brN|apply brI) <;> (intro))
     refine (admits_ok (hx.no hS.ext) p.proto p.dp out).mono ?_
     rintro v w' ⟨rfl, hx'⟩
     replace hS := hS.no hx'
     repeat' ((conv => whnf); first | refine RetC.mk ?_ | refine nzO ?_ | refine rgO ?_ | refine ixO ?_ | (first|apply brD|apply brND|apply brN|apply brI) <;> (intro))
     exact ⟨⟨_, rfl, .inl ⟨rfl, rfl⟩⟩, hS.ext⟩
end
end Go.Proofs.YtogjajjdaoihdaaGreatDoor

namespace Go.Proofs.YtogjajjdaoihdaaGreatDoor
set_option maxRecDepth 20000
open Go Ev

def encF (c : Nat) (a : Int) : List Value := [.int .i64 (c : Int), .int .i64 a]
section
variable {w : World} {G G' : RuleS → Prop} {a b : Option Addr} {n m c d : Nat} {xs ys : List RuleS}
theorem bare_ok (k : Nat) (w : World) : CallC Tryz.prog 11 #[.int .i64 (k : Int)] w fun v w' => v = .agg (encF k (-1)).toArray ∧ Ext No w w' := by
 refine fn_intro tabOk Tryz.func11 (by kernel_rfl) rfl Tryz.ntmps11 (lbO rfl) ?_
 have hS := St.start w No
 repeat' ((conv => whnf); first | refine RetC.mk ?_ | refine nzO ?_ | refine rgO ?_ | refine ixO ?_ | refine hS.new (fun b w' hb hS => ?_) | refine hS.st 0 rfl (lbO rfl) rfl (fun w' hS => ?_) | refine hS.laX 0 rfl rfl ?_ | (first|apply brD|apply brND|apply brN|apply brI) <;> (intro))
 exact ⟨rfl, hS.ext⟩
theorem fine_ok (w : World) : CallC Tryz.prog 36 #[] w fun v w' => v = .agg (encF 0 (-1)).toArray ∧ Ext No w w' := by
 refine fn_intro tabOk Tryz.func36 (by kernel_rfl) rfl Tryz.ntmps36 (lbO rfl) ?_
 have hS := St.start w No
 repeat' ((conv => whnf); first | refine RetC.mk ?_ | refine nzO ?_ | refine rgO ?_ | refine ixO ?_ | refine hS.new (fun b w' hb hS => ?_) | refine hS.st 0 rfl (lbO rfl) rfl (fun w' hS => ?_) | refine hS.laX 0 rfl rfl ?_ | (first|apply brD|apply brND|apply brN|apply brI) <;> (intro))
 exact ⟨rfl, hS.ext⟩
theorem rulesFault_ok (hx : Slc w 5 encRule G a n xs) : CallC Tryz.prog 16 #[.slice a n c] w fun v w' => v = .agg (encF (faultL xs).1 (faultL xs).2).toArray ∧ Ext No w w' := by
 have hm := hx.max
 have hl := hx.len
 have hge := badI_ge xs 0
 unfold faultL
 refine fn_intro tabOk Tryz.func16 (by kernel_rfl) rfl Tryz.ntmps16 (lbO rfl) ?_
 have hS := St.start w No
 conv=>whnf
 refine hS.new (fun bf w' hbf hS => ?_)
 conv=>whnf
 refine brD (fun h1 => ?_) (fun h1 => ?_)
 · rw [if_pos (by omega)]
   repeat' ((conv => whnf); first | refine RetC.mk ?_ | refine nzO ?_ | refine rgO ?_ | refine ixO ?_ | (refine (bare_ok 2 _).mono ?_; rintro v w' ⟨rfl, hx'⟩; replace hS := hS.no hx'; clear hx') | refine hS.st 0 rfl (lbO rfl) rfl (fun w' hS => ?_) | refine hS.laX 0 rfl rfl ?_ | (first|apply brD|apply brND|apply brN|apply brI) <;> (intro))
   exact ⟨rfl, hS.ext⟩
 rw [if_neg (by omega)]
 conv=>whnf
 refine loopR tabOk (fun σ w' q => ∃ k : Nat, σ = [(3, .int .i64 (k : Int)), (2, .pointer (some ⟨bf, 0, none⟩)), (0, .slice a n c)] ∧ q = n - k ∧ k ≤ n ∧ St w No w' [blk bf 30 [.int .i64 0, .int .i64 0]] ∧ badI xs 0 = badI (xs.drop k) k)
   (σ' := [(3, .int .i64 ((0 : Nat) : Int)), (2, .pointer (some ⟨bf, 0, none⟩)), (0, .slice a n c)]) (n := n) ⟨rfl, rfl, rfl, trivial⟩ ⟨0, rfl, rfl, Nat.zero_le _, hS, by simp⟩ ?_
 clear hS
 rintro _ w1 q ⟨k, rfl, rfl, hk, hS, hi⟩
 conv=>whnf
 refine brD (fun h3 => ?_) (fun h3 => ?_)
 · obtain ⟨b0, o0, x, hxk, hgx, rfl, _, hc⟩ := hx.at (k := k) (by omega)
   have hst := badI_step hxk
   conv=>whnf
   refine ixO ?_
   conv=>whnf
   refine hS.lar (l := encRule x) rfl hc id ?_
   conv=>whnf
   refine hS.new (fun bx w' hb hS => ?_)
   conv=>whnf
   refine hS.st 1 rfl (lbO rfl) rfl (fun w' hS => ?_)
   replace hS : St w No w' [blk bf 30 [.int .i64 0, .int .i64 0], blk bx 98 (encRule x)] := hS
   have yes : x.bad = true → badI xs 0 = k := fun h => by rw [hi, hst, h]
   have no : x.bad = false → badI xs 0 = badI (xs.drop (k + 1)) (k + 1) := fun h => by rw [hi, hst, h]
   clear hi hst
   repeat' ((conv => whnf); first | refine RetC.mk ?_ | refine nzO ?_ | refine rgO ?_ | refine ixO ?_ | refine hS.ld 0 rfl rfl ?_ | refine hS.ld 1 rfl rfl ?_ | refine hS.laX 0 rfl rfl ?_ | refine hS.laX 1 rfl rfl ?_ | refine hS.st 0 rfl (lbO rfl) rfl (fun w' hS => ?_) | (first|apply brD|apply brND|apply brN|apply brI) <;> (intro))
   all_goals first
     | (have hb : x.bad = true := by { clear hS yes no; simp_all [RuleS.bad] <;> intros <;> omega }; rw [if_neg (by have := yes hb; omega), yes hb]; exact ⟨rfl, hS.ext⟩)
     | (replace no := no (by clear hS yes no; simp_all [RuleS.bad] <;> intros <;> omega); clear yes; refine LoopE.mk ⟨_, [(3, .int .i64 ((k + 1 : Nat) : Int)), (2, _), (0, _)], ?_, ⟨rfl, rfl, rfl, trivial⟩, ⟨k + 1, rfl, rfl, by omega, hS.keep 1, no⟩⟩; omega)
 · have : k = n := by omega
   subst this
   rw [hi, List.drop_of_length_le (by omega), if_pos (by simp [badI])]
   repeat' ((conv => whnf); first | refine RetC.mk ?_ | refine nzO ?_ | refine rgO ?_ | refine ixO ?_ | (refine (fine_ok _).mono ?_; rintro v w' ⟨rfl, hx'⟩; replace hS := hS.no hx'; clear hx') | refine hS.st 0 rfl (lbO rfl) rfl (fun w' hS => ?_) | refine hS.laX 0 rfl rfl ?_ | (first|apply brD|apply brND|apply brN|apply brI) <;> (intro))
   exact ⟨rfl, hS.ext⟩
end
end Go.Proofs.YtogjajjdaoihdaaGreatDoor

namespace Go.Proofs.YtogjajjdaoihdaaGreatDoor
set_option maxRecDepth 20000
open Go Ev

structure NodeS where
 id : Int
 now : Int
 role : RoleS
 cell : CelS
 tab : MirS
 tel : TelS
 mir : MirS
 rules : List RuleS
structure NoteS where
 fro : Int
 life : Int
 epoch : Int
 claim : Bool
 cells : List CellS

def NodeS.pass (N : NodeS) (k flags : Int) (out : Bool) : NodeS :=
 { N with tab := match (nextS (flowAt N.tab k).proto (flowAt N.tab k).state flags out).2 with
   | true => (N.tab.drop k).2
   | false => (N.tab.setS k (nextS (flowAt N.tab k).proto (flowAt N.tab k).state flags out).1 (N.now + timeS (flowAt N.tab k).proto (nextS (flowAt N.tab k).proto (flowAt N.tab k).state flags out).1)).2 }
def NodeS.begin (N : NodeS) (p : PktS) : (Int × Nat) × NodeS :=
 if admitsL p.proto p.dp true N.rules = false then ((0, 8), N) else
 if (beginS p.proto p.flags).2 ≠ 0 then ((0, (beginS p.proto p.flags).2), N) else
 ((N.tab.add p.proto p.sa p.sp p.da p.dp (beginS p.proto p.flags).1 (N.now + timeS p.proto (beginS p.proto p.flags).1)).1, { N with tab := (N.tab.add p.proto p.sa p.sp p.da p.dp (beginS p.proto p.flags).1 (N.now + timeS p.proto (beginS p.proto p.flags).1)).2 })
def NodeS.inside (N : NodeS) (p : PktS) : Nat × PktS × NodeS :=
 if p.err ≠ 0 then (p.err, noPkt, N) else
 if N.role.active = false then (9, noPkt, N) else
 if 0 ≤ N.tab.find p.proto p.sa p.sp p.da p.dp then (0, ⟨p.proto, 1, (flowAt N.tab (N.tab.find p.proto p.sa p.sp p.da p.dp)).port, p.da, p.dp, p.flags⟩, N.pass (N.tab.find p.proto p.sa p.sp p.da p.dp) p.flags true) else
 if (N.begin p).1.2 ≠ 0 then ((N.begin p).1.2, noPkt, (N.begin p).2) else
 (0, ⟨p.proto, 1, (flowAt (N.begin p).2.tab (N.begin p).1.1).port, p.da, p.dp, p.flags⟩, (N.begin p).2)
def NodeS.outside (N : NodeS) (p : PktS) : Nat × PktS × NodeS :=
 if p.err ≠ 0 then (p.err, noPkt, N) else
 if N.role.active = false then (9, noPkt, N) else
 if p.da ≠ 1 then (3, noPkt, N) else
 if N.tab.back p.proto p.dp p.sa p.sp < 0 then (4, noPkt, N) else
 (0, ⟨p.proto, p.sa, p.sp, (flowAt N.tab (N.tab.back p.proto p.dp p.sa p.sp)).ia, (flowAt N.tab (N.tab.back p.proto p.dp p.sa p.sp)).ip, p.flags⟩, N.pass (N.tab.back p.proto p.dp p.sa p.sp) p.flags false)
def putAll (now : Int) (T : MirS) (l : List FlowS) : MirS := l.foldl (fun T f => (T.put { f with til := now + timeS f.proto f.state }).2) T
def NodeS.claim (N : NodeS) (B : BytS) : (Bool × Nat) × NodeS × BytS :=
 if N.role.next.2 ≠ 0 then ((false, 0), N, B) else
 if (N.cell.put B N.role.next.1 N.cell.li).1 ≠ 0 then ((false, (N.cell.put B N.role.next.1 N.cell.li).1), { N with cell := (N.cell.put B N.role.next.1 N.cell.li).2.2 }, (N.cell.put B N.role.next.1 N.cell.li).2.1) else
 ((true, 0), { N with cell := (N.cell.put B N.role.next.1 N.cell.li).2.2, role := (N.role.claim N.role.next.1).2, tab := putAll N.now N.tab (flowsOf N.mir.cells) }, (N.cell.put B N.role.next.1 N.cell.li).2.1)
def NodeS.step (N : NodeS) : Bool × NodeS := (N.role.tick.1, { N with now := N.now + 1, tab := N.tab.expire (N.now + 1), role := N.role.tick.2 })
def NodeS.beat (N : NodeS) : Bool := N.role.active && decide (N.now.tmod 3 = 0)
def NodeS.notes (N : NodeS) (claimed : Bool) : List NoteS × NodeS :=
 ((if claimed = true ∨ N.beat = true then [⟨N.id, N.cell.li, N.role.epoch, true, []⟩] else []) ++ (if N.beat = true then [⟨N.id, N.cell.li, N.role.epoch, false, outC N.tab.cells (N.tel.picks N.tab.cells)⟩] else []),
  if N.beat = true then { N with tel := N.tel.next N.tab.cells } else N)
def NodeS.tick (N : NodeS) (B : BytS) : Nat × List NoteS × NodeS × BytS :=
 if N.now ≥ 1099511627776 then (2, [], N, B) else
 if N.step.1 = true then
   (if (N.step.2.claim B).1.2 ≠ 0 then ((N.step.2.claim B).1.2, [], (N.step.2.claim B).2.1, (N.step.2.claim B).2.2)
    else (0, ((N.step.2.claim B).2.1.notes (N.step.2.claim B).1.1).1, ((N.step.2.claim B).2.1.notes (N.step.2.claim B).1.1).2, (N.step.2.claim B).2.2))
 else (0, (N.step.2.notes false).1, (N.step.2.notes false).2, B)
def NodeS.hear (N : NodeS) (x : NoteS) : Nat × NodeS :=
 if x.fro ≠ 1 - N.id ∨ x.epoch < 0 ∨ x.epoch > 1073741824 then (2, N) else
 if x.claim = true then (3, N) else
 if (N.mir.tell x.life x.cells).1 ≠ 0 then ((N.mir.tell x.life x.cells).1, { N with mir := (N.mir.tell x.life x.cells).2 }) else
 (0, { N with mir := (N.mir.tell x.life x.cells).2, role := (N.role.hear x.epoch).2 })
def NodeS.born (id : Int) (C : CelS) (rules : List RuleS) : NodeS := ⟨id, 0, ⟨id, (C.ep : Int), 0, false⟩, C, ⟨2000 + id * 24, emptyCells⟩, tel0, ⟨0, emptyCells⟩, rules⟩
def newN (id : Int) (B : BytS) (rules : List RuleS) : Nat × NodeS × BytS :=
 (((openS B.data).put B (openS B.data).ep ((openS B.data).li + 1)).1, .born id ((openS B.data).put B (openS B.data).ep ((openS B.data).li + 1)).2.2 rules, ((openS B.data).put B (openS B.data).ep ((openS B.data).li + 1)).2.1)

structure NOk (m : Nat) (N : NodeS) : Prop where
 id : N.id = 0 ∨ N.id = 1
 n0 : 0 ≤ N.now
 n1 : N.now ≤ 1099511627776
 role : N.role.Ok
 rid : N.role.node = N.id
 sil : N.role.silence ≤ m
 num : N.cell.num < 4294967296
 ep : N.cell.ep ≤ 1073741824
 li : N.cell.li ≤ 1073741824
 tab : TOk m N.tab
 lif : N.tab.life = 2000 + N.id * 24
 told : N.tel.told.length = 32
 cur : N.tel.cursor < 32
 mir : N.mir.cells.length = 32
 rules : GoodR N.rules
theorem add_life (T : MirS) (a b c d e f g : Int) : (T.add a b c d e f g).2.life = T.life := by
 unfold MirS.add MirS.lay
 repeat' split
 all_goals rfl
theorem put_life (T : MirS) (f : FlowS) : (T.put f).2.life = T.life := by
 unfold MirS.put MirS.lay
 repeat' split
 all_goals rfl
theorem setS_life (T : MirS) (k a b : Int) : (T.setS k a b).2.life = T.life := by
 unfold MirS.setS
 split <;> rfl
theorem drop_life (T : MirS) (k : Int) : (T.drop k).2.life = T.life := by
 unfold MirS.drop
 split <;> rfl
theorem TOk.mono {m n : Nat} {T : MirS} (h : TOk m T) (hn : m ≤ n) : TOk n T := ⟨h.len, fun c hc => by have := h.ver c hc; omega, h.slot⟩
theorem NOk.mono {m n : Nat} {N : NodeS} (h : NOk m N) (hn : m ≤ n) : NOk n N :=
 ⟨h.id, h.n0, h.n1, h.role, h.rid, by have := h.sil; omega, h.num, h.ep, h.li, h.tab.mono hn, h.lif, h.told, h.cur, h.mir, h.rules⟩
theorem NOk.withTab {m n : Nat} {N : NodeS} {T : MirS} (h : NOk m N) (hn : m ≤ n) (hT : TOk n T) (hl : T.life = N.tab.life) : NOk n { N with tab := T } :=
 ⟨h.id, h.n0, h.n1, h.role, h.rid, by have := h.sil; show N.role.silence ≤ n; omega, h.num, h.ep, h.li, hT, hl.trans h.lif, h.told, h.cur, h.mir, h.rules⟩
theorem NOk.pass {m : Nat} {N : NodeS} (h : NOk m N) (k f : Int) (o : Bool) : NOk (m + 1) (N.pass k f o) := by
 unfold NodeS.pass
 refine h.withTab (Nat.le_succ _) ?_ ?_
 · cases (nextS (flowAt N.tab k).proto (flowAt N.tab k).state f o).2
   · exact h.tab.setS _ _ _
   · exact h.tab.drop _
 · cases (nextS (flowAt N.tab k).proto (flowAt N.tab k).state f o).2
   · exact setS_life _ _ _ _
   · exact drop_life _ _
theorem NOk.begin {m : Nat} {N : NodeS} (h : NOk m N) (p : PktS) : NOk (m + 1) (N.begin p).2 := by
 unfold NodeS.begin
 split
 · exact h.mono (Nat.le_succ _)
 split
 · exact h.mono (Nat.le_succ _)
 · exact h.withTab (Nat.le_succ _) (h.tab.add _ _ _ _ _ _ _) (add_life _ _ _ _ _ _ _ _)
theorem lay_in {T : MirS} (hl : T.cells.length = 32) (f : FlowS) (h : (T.lay f).1.2 = 0) : 0 ≤ (T.lay f).1.1 ∧ (T.lay f).1.1 < 32 := by
 unfold MirS.lay at h ⊢
 split at h
 · exact absurd (show (6 : Nat) = 0 from h) (by decide)
 · rename_i hk
   rw [if_neg hk]
   have := idxI_bound proto0 T.cells 0
   dsimp only
   omega
theorem add_in {T : MirS} (hl : T.cells.length = 32) (a b c d e f g : Int) (h : (T.add a b c d e f g).1.2 = 0) : 0 ≤ (T.add a b c d e f g).1.1 ∧ (T.add a b c d e f g).1.1 < 32 := by
 unfold MirS.add at h ⊢
 split at h
 · exact absurd (show (5 : Nat) = 0 from h) (by decide)
 rename_i h1
 rw [if_neg h1]
 cases hp : portF T a d e 24 0 with
 | none => rw [hp] at h; exact absurd (show (6 : Nat) = 0 from h) (by decide)
 | some i => rw [hp] at h; exact lay_in hl _ h
theorem begin_in {m : Nat} {N : NodeS} (h : NOk m N) (p : PktS) (h0 : (N.begin p).1.2 = 0) : 0 ≤ (N.begin p).1.1 ∧ (N.begin p).1.1 < 32 := by
 unfold NodeS.begin at h0 ⊢
 split at h0
 · exact absurd (show (8 : Nat) = 0 from h0) (by decide)
 rename_i h1
 rw [if_neg h1]
 split at h0
 · rename_i h2
   exact absurd h0 h2
 rename_i h2
 rw [if_neg h2]
 exact add_in h.tab.len _ _ _ _ _ _ _ h0
theorem flowAt_in {m : Nat} {N : NodeS} (h : NOk m N) (k : Int) (h0 : 0 ≤ k) (h1 : k < 32) : ∃ c, N.tab.cells[k.toNat]? = some c ∧ c.f = flowAt N.tab k := by
 have hl : k.toNat < N.tab.cells.length := by rw [h.tab.len]; omega
 refine ⟨_, List.getElem?_eq_getElem hl, ?_⟩
 unfold flowAt
 rw [List.getElem?_eq_getElem hl]

theorem putAll_step (now : Int) (T : MirS) {l : List FlowS} {k : Nat} {f : FlowS} (h : l[k]? = some f) : putAll now T (l.take (k + 1)) = ((putAll now T (l.take k)).put { f with til := now + timeS f.proto f.state }).2 := by
 unfold putAll
 rw [List.take_add_one, h, List.foldl_append]
 rfl
theorem putAll_ok (now : Int) : ∀ (l : List FlowS) {m : Nat} {T : MirS}, TOk m T → TOk (m + l.length) (putAll now T l)
 | [], _, _, h => h
 | f :: l, m, T, h => by
   have := putAll_ok now l (h.put { f with til := now + timeS f.proto f.state })
   rw [List.length_cons, show m + (l.length + 1) = m + 1 + l.length by omega]
   exact this
theorem putAll_life (now : Int) : ∀ (l : List FlowS) (T : MirS), (putAll now T l).life = T.life
 | [], _ => rfl
 | f :: l, T => (putAll_life now l _).trans (put_life _ _)
theorem RoleS.next_pos {r : RoleS} (h : r.Ok) (h0 : r.next.2 = 0) : 0 ≤ r.next.1 ∧ r.next.1 ≤ 1073741824 := by
 have h1 := h.e0
 unfold RoleS.next at h0 ⊢
 dsimp only at h0 ⊢
 generalize hE : (if (r.epoch + 1).tmod 2 ≠ r.node then r.epoch + 1 + 1 else r.epoch + 1) = e at h0 ⊢
 have h3 : e = r.epoch + 1 + 1 ∨ e = r.epoch + 1 := by
   rw [← hE]
   split
   · exact .inl rfl
   · exact .inr rfl
 by_cases h2 : e > 1073741824
 · rw [if_pos h2] at h0
   exact absurd (show (2 : Nat) = 0 from h0) (by decide)
 · rw [if_neg h2]
   dsimp only
   omega
theorem RoleS.claim_next {r : RoleS} (ha : r.active = false) (h0 : r.next.2 = 0) : r.claim r.next.1 = (0, { r with active := true, epoch := r.next.1 }) := by
 unfold RoleS.claim
 rw [if_neg (by rw [ha]; decide), if_neg (fun h => h h0), if_neg (fun h => h rfl)]
theorem nput_num (C : CelS) (B : BytS) (e l : Int) (h : C.num < 4294967296) : (C.put B e l).2.2.num < 4294967296 := by
 unfold CelS.put
 repeat' split
 all_goals dsimp only
 all_goals omega
theorem nput_ok (C : CelS) (B : BytS) (e l : Int) (h : BOk B) : BOk (C.put B e l).2.1 := by
 unfold CelS.put
 repeat' split
 all_goals first | exact h | exact h.cwrite _ _ _
theorem nput_ep (C : CelS) (B : BytS) (e l : Int) (h : C.ep ≤ 1073741824 ∧ C.li ≤ 1073741824) : (C.put B e l).2.2.ep ≤ 1073741824 ∧ (C.put B e l).2.2.li ≤ 1073741824 := by
 unfold CelS.put
 repeat' split
 all_goals dsimp only
 all_goals omega
theorem nput_ep0 (C : CelS) (B : BytS) (e l : Int) (h : (C.put B e l).1 = 0) : (C.put B e l).2.2.ep ≤ 1073741824 ∧ (C.put B e l).2.2.li ≤ 1073741824 := by
 unfold CelS.put at h ⊢
 repeat' split at h
 all_goals first | (exact absurd (show (7 : Nat) = 0 from h) (by decide)) | (exact absurd (show (2 : Nat) = 0 from h) (by decide)) | (exact absurd (show (10 : Nat) = 0 from h) (by decide)) | (exact absurd (show (6 : Nat) = 0 from h) (by decide)) | skip
 rename_i h1 h2 h3 h4 h5
 rw [if_neg h1, if_neg h2, if_neg h3, if_neg h4, if_pos h5]
 dsimp only
 omega
theorem NOk.claim {m : Nat} {N : NodeS} (h : NOk m N) (ha : N.role.active = false) (B : BytS) : NOk (m + 33) (N.claim B).2.1 := by
 unfold NodeS.claim
 split
 · exact h.mono (by omega)
 rename_i h1
 have h2 : N.role.next.2 = 0 := Classical.byContradiction h1
 split
 · exact ⟨h.id, h.n0, h.n1, h.role, h.rid, by have := h.sil; show N.role.silence ≤ _; omega, nput_num _ _ _ _ h.num, (nput_ep _ _ _ _ ⟨h.ep, h.li⟩).1, (nput_ep _ _ _ _ ⟨h.ep, h.li⟩).2, h.tab.mono (by omega), h.lif, h.told, h.cur, h.mir, h.rules⟩
 · have hn := RoleS.next_pos h.role h2
   have hl := flowsOf_len N.mir.cells
   rw [h.mir] at hl
   rw [RoleS.claim_next ha h2]
   exact ⟨h.id, h.n0, h.n1, ⟨h.role.n0, hn.1, hn.2, h.role.s0, h.role.s1⟩, h.rid, by have := h.sil; show N.role.silence ≤ _; omega, nput_num _ _ _ _ h.num, (nput_ep _ _ _ _ ⟨h.ep, h.li⟩).1, (nput_ep _ _ _ _ ⟨h.ep, h.li⟩).2, (putAll_ok _ _ h.tab).mono (by omega), (putAll_life _ _ _).trans h.lif, h.told, h.cur, h.mir, h.rules⟩
theorem NodeS.claim_bok {N : NodeS} {B : BytS} (h : BOk B) : BOk (N.claim B).2.2 := by
 unfold NodeS.claim
 split
 · exact h
 split
 all_goals exact nput_ok _ _ _ _ h
theorem NOk.step {m : Nat} {N : NodeS} (h : NOk m N) (hm : m ≤ 50000000) (hn : N.now < 1099511627776) : NOk (m + 1) N.step.2 := by
 have h1 := h.n0
 have h2 := h.sil
 have h3 := h.role.s0
 refine ⟨h.id, ?_, ?_, ?_, ?_, ?_, h.num, h.ep, h.li, h.tab.expire _ _, h.lif, h.told, h.cur, h.mir, h.rules⟩
 · show 0 ≤ N.now + 1
   omega
 · show N.now + 1 ≤ _
   omega
 · show N.role.tick.2.Ok
   unfold RoleS.tick
   split
   · exact h.role
   · exact ⟨h.role.n0, h.role.e0, h.role.e1, by show 0 ≤ N.role.silence + 1; omega, by show N.role.silence + 1 ≤ _; omega⟩
 · show N.role.tick.2.node = N.id
   unfold RoleS.tick
   split <;> exact h.rid
 · show N.role.tick.2.silence ≤ _
   unfold RoleS.tick
   split
   · show N.role.silence ≤ _
     omega
   · show N.role.silence + 1 ≤ _
     omega
theorem step_active {N : NodeS} (h : N.step.1 = true) : N.step.2.role.active = false := by
 show N.role.tick.2.active = false
 have h : N.role.tick.1 = true := h
 unfold RoleS.tick at h ⊢
 split at h
 · cases h
 · rename_i h1
   rw [if_neg h1]
   exact Bool.eq_false_iff.2 h1
theorem NOk.notes {m : Nat} {N : NodeS} (h : NOk m N) (c : Bool) : NOk m (N.notes c).2 := by
 unfold NodeS.notes
 dsimp only
 split
 · exact ⟨h.id, h.n0, h.n1, h.role, h.rid, h.sil, h.num, h.ep, h.li, h.tab, h.lif, told_next _ h.told, (picks_law _ h.cur).cur, h.mir, h.rules⟩
 · exact h
theorem NOk.tick {m : Nat} {N : NodeS} (h : NOk m N) (hm : m ≤ 50000000) (B : BytS) : NOk (m + 34) (N.tick B).2.2.1 := by
 unfold NodeS.tick
 split
 · exact h.mono (by omega)
 rename_i hn
 have h1 := h.step hm (by omega)
 split
 · rename_i hs
   have h2 := h1.claim (step_active hs) B
   split
   · exact h2
   · exact h2.notes (N.step.2.claim B).1.1
 · exact (h1.notes false).mono (by omega)
theorem NodeS.tick_bok {N : NodeS} {B : BytS} (h : BOk B) : BOk (N.tick B).2.2.2 := by
 unfold NodeS.tick
 split
 · exact h
 split
 · split
   all_goals exact NodeS.claim_bok h
 · exact h
theorem NOk.hear {m : Nat} {N : NodeS} (h : NOk m N) (x : NoteS) : NOk m (N.hear x).2 := by
 unfold NodeS.hear
 split
 · exact h
 rename_i h1
 split
 · exact h
 have hl : (N.mir.tell x.life x.cells).2.cells.length = 32 := MirS.tell_len h.mir _ _
 split
 · exact ⟨h.id, h.n0, h.n1, h.role, h.rid, h.sil, h.num, h.ep, h.li, h.tab, h.lif, h.told, h.cur, hl, h.rules⟩
 · refine ⟨h.id, h.n0, h.n1, ?_, ?_, ?_, h.num, h.ep, h.li, h.tab, h.lif, h.told, h.cur, hl, h.rules⟩
   · show (N.role.hear x.epoch).2.Ok
     have h2 := h.role
     unfold RoleS.hear
     rw [if_neg (by omega)]
     dsimp only
     repeat' split
     all_goals exact ⟨h2.n0, by first | exact h2.e0 | (show 0 ≤ x.epoch; omega), by first | exact h2.e1 | (show x.epoch ≤ _; omega), by first | exact h2.s0 | exact Int.le_refl 0, by first | exact h2.s1 | (show (0 : Int) ≤ _; decide)⟩
   · show (N.role.hear x.epoch).2.node = N.id
     have h2 := h.rid
     unfold RoleS.hear
     dsimp only
     repeat' split
     all_goals exact h2
   · show (N.role.hear x.epoch).2.silence ≤ m
     have h2 := h.sil
     have h3 : (0 : Int) ≤ m := Int.natCast_nonneg m
     unfold RoleS.hear
     dsimp only
     repeat' split
     all_goals first | exact h2 | exact h3
end Go.Proofs.YtogjajjdaoihdaaGreatDoor

namespace Go.Proofs.YtogjajjdaoihdaaGreatDoor
set_option maxRecDepth 20000
open Go Ev Go.Extern

def hv (t : TypeId) : Value := .pointer (some ⟨27, t, none⟩)
def rt (t : TypeId) : Value := .iface 315 (.agg #[hv t])
def rvl (t : TypeId) (a : Addr) : List Value := [hv t, .pointer (some a), .int .u64 150]

def EX (P : Program) (f : FuncId) (s : Array Value → Sem Value) : Prop := ∀ args w, (callFunc f args).run P w = ((s args).run P w).andThen fun v w' => .ok (.value v) w'
theorem EX.to {P : Program} {f : FuncId} {s : Array Value → Sem Value} (h : EX P f s) {args : Array Value} {w w' : World} {v : Value} (hs : (s args).run P w = .ok v w') : (callFunc f args).run P w = .ok (.value v) w' := by
 rw [h, hs]
 rfl
theorem e_valueOf : EX Tryz.prog 109 (fun args => ReflectliteValue.unpack (args.getD 0 (.tuple #[]))) := fun args w =>
 run_callFunc_extern (e := (fun args => ReflectliteValue.unpack (args.getD 0 (.tuple #[])))) Tryz.func109 (by kernel_rfl) (by kernel_rfl) (by kernel_rfl) (by kernel_rfl) args w
theorem e_type : EX Tryz.prog 110 (ReflectliteValue.methodAny (ReflectliteValue.valueError "reflectlite.Value.Type" 0) (fun t _ _ _ => ReflectliteType.toType t)) := fun args w =>
 run_callFunc_extern (e := (ReflectliteValue.methodAny (ReflectliteValue.valueError "reflectlite.Value.Type" 0) (fun t _ _ _ => ReflectliteType.toType t))) Tryz.func110 (by kernel_rfl) (by kernel_rfl) (by kernel_rfl) (by kernel_rfl) args w
theorem e_isNil : EX Tryz.prog 111 (ReflectliteValue.method (ReflectliteValue.valueError "reflectlite.Value.IsNil" 0) ReflectliteValue.isNil) := fun args w =>
 run_callFunc_extern (e := (ReflectliteValue.method (ReflectliteValue.valueError "reflectlite.Value.IsNil" 0) ReflectliteValue.isNil)) Tryz.func111 (by kernel_rfl) (by kernel_rfl) (by kernel_rfl) (by kernel_rfl) args w
theorem e_kind : EX Tryz.prog 367 (ReflectliteType.abiMethod fun t => do pure (.int .u8 (← Rtype.kind t))) := fun args w =>
 run_callFunc_extern (e := (ReflectliteType.abiMethod fun t => do pure (.int .u8 (← Rtype.kind t)))) Tryz.func367 (by kernel_rfl) (by kernel_rfl) (by kernel_rfl) (by kernel_rfl) args w
theorem e_elem : EX Tryz.prog 382 (ReflectliteType.method ReflectliteType.elem) := fun args w =>
 run_callFunc_extern (e := (ReflectliteType.method ReflectliteType.elem)) Tryz.func382 (by kernel_rfl) (by kernel_rfl) (by kernel_rfl) (by kernel_rfl) args w
theorem e_impl : EX Tryz.prog 383 (ReflectliteType.relation "Implements" ReflectliteType.implements_) := fun args w =>
 run_callFunc_extern (e := (ReflectliteType.relation "Implements" ReflectliteType.implements_)) Tryz.func383 (by kernel_rfl) (by kernel_rfl) (by kernel_rfl) (by kernel_rfl) args w
theorem e_typeOf : EX Tryz.prog 173 ReflectliteType.typeOf := fun args w =>
 run_callFunc_extern (e := ReflectliteType.typeOf) Tryz.func173 (by kernel_rfl) (by kernel_rfl) (by kernel_rfl) (by kernel_rfl) args w
theorem e_assign : EX Tryz.prog 380 (ReflectliteType.relation "AssignableTo" ReflectliteType.assignableTo) := fun args w =>
 run_callFunc_extern (e := (ReflectliteType.relation "AssignableTo" ReflectliteType.assignableTo)) Tryz.func380 (by kernel_rfl) (by kernel_rfl) (by kernel_rfl) (by kernel_rfl) args w

theorem x_valueOf (t : Addr) (w : World) : (callFunc 109 #[.iface 145 (.pointer (some t))]).run Tryz.prog w
   = .ok (.value (.agg (rvl 145 ⟨w.heap.size, 0, none⟩).toArray)) (pushBlk w 145 [.pointer (some t)]) := e_valueOf.to (by kernel_rfl)
theorem x_type (a : Addr) (w : World) : (callFunc 110 #[.agg (rvl 145 a).toArray]).run Tryz.prog w = .ok (.value (rt 145)) w := e_type.to (by kernel_rfl)
theorem x_isNil (a p : Addr) (w : World) (ha : w.cell? a = some (.pointer (some p))) : (callFunc 111 #[.agg (rvl 145 a).toArray]).run Tryz.prog w = .ok (.value (.bool false)) w := by
 refine e_isNil.to ?_
 have hp : (ReflectliteValue.parts (.agg (rvl 145 a).toArray)).run Tryz.prog w = .ok (some (145, a, 150)) w := by kernel_rfl
 rw [show ReflectliteValue.method (ReflectliteValue.valueError "reflectlite.Value.IsNil" 0) ReflectliteValue.isNil #[.agg (rvl 145 a).toArray] = (do match ← ReflectliteValue.parts (.agg (rvl 145 a).toArray) with | none => ReflectliteValue.valueError "reflectlite.Value.IsNil" 0 | some (t, a, fl) => ReflectliteValue.isNil t a fl (fl % 32)) from rfl]
 simp only [Sem.run_bind, hp, Result.andThen]
 simp [ReflectliteValue.isNil, loadVar, isAgg, underlying, Tryz.underlying145, ha, Result.andThen]
theorem x_kind1 (w : World) : (callFunc 367 #[hv 145]).run Tryz.prog w = .ok (.value (.int .u8 22)) w := e_kind.to (by kernel_rfl)
theorem x_kind2 (w : World) : (callFunc 367 #[hv 143]).run Tryz.prog w = .ok (.value (.int .u8 22)) w := e_kind.to (by kernel_rfl)
theorem x_elem (w : World) : (callFunc 382 #[.agg #[hv 145]]).run Tryz.prog w = .ok (.value (rt 143)) w := e_elem.to (by kernel_rfl)
theorem x_impl (w : World) : (callFunc 383 #[.agg #[hv 143], rt 25]).run Tryz.prog w = .ok (.value (.bool true)) w := e_impl.to (by kernel_rfl)
theorem x_typeOf (a : Addr) (w : World) : (callFunc 173 #[.iface 438 (.pointer (some a))]).run Tryz.prog w = .ok (.value (rt 438)) w := e_typeOf.to (by kernel_rfl)
theorem x_assign (w : World) : (callFunc 380 #[.agg #[hv 438], rt 143]).run Tryz.prog w = .ok (.value (.bool false)) w := e_assign.to (by kernel_rfl)

theorem m_kind (h : Value) (w : World) : (Go.method (Tryz.prog.types.size + Made.depth) 315 (.agg #[h]) "Kind").run Tryz.prog w = .ok (367, h) w := by kernel_rfl
theorem m_elem (h : Value) (w : World) : (Go.method (Tryz.prog.types.size + Made.depth) 315 (.agg #[h]) "Elem").run Tryz.prog w = .ok (382, .agg #[h]) w := by kernel_rfl
theorem m_impl (h : Value) (w : World) : (Go.method (Tryz.prog.types.size + Made.depth) 315 (.agg #[h]) "Implements").run Tryz.prog w = .ok (383, .agg #[h]) w := by kernel_rfl
theorem m_assign (h : Value) (w : World) : (Go.method (Tryz.prog.types.size + Made.depth) 315 (.agg #[h]) "AssignableTo").run Tryz.prog w = .ok (380, .agg #[h]) w := by kernel_rfl
end Go.Proofs.YtogjajjdaoihdaaGreatDoor

namespace Go.Proofs.YtogjajjdaoihdaaGreatDoor
set_option maxRecDepth 20000
open Go Ev Go.Extern

def Handle (w : World) : Prop := w.cell? ⟨12, 0, none⟩ = some (rt 25)
theorem Handle.ext {w w' : World} (h : Handle w) (hx : Ext No w w') : Handle w' := hx.cell h fun h => h

theorem Ev.St.pushed {w0 w : World} {S : Nat → Prop} {H : List Ent} (h : St w0 S w H) (t : TypeId) (cs : List Value) : St w0 S (pushBlk w t cs) (H ++ [Ev.blk w.heap.size t cs]) := by
 refine h.made (Ext.push _ _ _ _) (blk_local _ _ _) (show (w.heap.push _)[w.heap.size]? = _ by rw [Array.getElem?_push, if_pos rfl]) ?_
 intro b hb
 obtain rfl : b = w.heap.size := by simpa [Ev.blk] using hb
 simp [pushBlk]

theorem ta_as (a : Addr) (w : World) : (Instr.typeAssert (.iface 438 (.pointer (some a))) 25 319 true).run Tryz.prog w = .ok (.tuple #[.nilIface, .bool false]) w := run_typeAssert_lacksB Tryz.underlying319 (by kernel_rfl) (by kernel_rfl) _ _ w
theorem ta_un (a : Addr) (w : World) : (Instr.typeAssert (.iface 438 (.pointer (some a))) 25 322 true).run Tryz.prog w = .ok (.tuple #[.nilIface, .bool false]) w := run_typeAssert_lacksB Tryz.underlying322 (by kernel_rfl) (by kernel_rfl) _ _ w
theorem ta_uns (a : Addr) (w : World) : (Instr.typeAssert (.iface 438 (.pointer (some a))) 25 324 true).run Tryz.prog w = .ok (.tuple #[.nilIface, .bool false]) w := run_typeAssert_lacksB Tryz.underlying324 (by kernel_rfl) (by kernel_rfl) _ _ w
theorem as_miss (e p q : Addr) (w : World) : CallC Tryz.prog 112 #[.iface 438 (.pointer (some e)), .iface 145 (.pointer (some p)), .agg (rvl 145 q).toArray, rt 143] w fun v w' => v = .bool false ∧ Ext No w w' := by
 refine fn_intro tabOk Tryz.func112 (by kernel_rfl) rfl Tryz.ntmps112 (lbO rfl) ?_
 have hS := St.start w No
 conv=>whnf
 refine hS.new (fun b w' hb hS => ?_)
 conv=>whnf
 refine loopR tabOk (fun σ w' n => σ = [(3, rt 143), (0, .iface 438 (.pointer (some e)))] ∧ Ext No w w')
   (σ' := [(3, rt 143), (0, .iface 438 (.pointer (some e)))]) (n := 0) ⟨rfl, rfl, trivial⟩ ⟨rfl, hS.ext⟩ ?_
 clear hS
 rintro _ w1 n ⟨rfl, hx⟩
 conv=>whnf
 refine CallC.extern (x_typeOf e w1) ?_
 conv=>whnf
 refine ⟨_, _, m_assign _ _, CallC.extern (x_assign w1) ?_⟩
 conv=>whnf
 refine ⟨_, _, ta_as e w1, ?_⟩
 conv=>whnf
 refine ⟨_, _, ta_un e w1, ?_⟩
 conv=>whnf
 refine ⟨_, _, ta_uns e w1, ?_⟩
 repeat' ((conv => whnf); first | refine RetC.mk ?_ | refine nzO ?_ | refine rgO ?_ | refine ixO ?_ | (first|apply brD|apply brND|apply brN|apply brI) <;> (intro))
 exact ⟨rfl, hx⟩

theorem errorsAs_miss (e p : Addr) (w : World) (hh : Handle w) : CallC Tryz.prog 63 #[.iface 438 (.pointer (some e)), .iface 145 (.pointer (some p))] w fun v w' => v = .bool false ∧ Ext No w w' := by
 refine fn_intro tabOk Tryz.func63 (by kernel_rfl) rfl Tryz.ntmps63 (lbO rfl) ?_
 have hS := St.start w No
 conv=>whnf
 refine CallC.extern (x_valueOf p w) ?_
 replace hS := hS.pushed 145 [.pointer (some p)]
 have hb := (hS.blk 0 rfl).cell 0
 have hbl := (hS.blk 0 rfl).lt
 generalize pushBlk w 145 [.pointer (some p)] = w1 at hS hb hbl
 generalize w.heap.size = b1 at hS hb hbl
 conv=>whnf
 first | refine ZeroC.mk ⟨.agg #[.pointer none, .pointer none, .int .u64 0], by kernel_rfl, ?_⟩ | skip
 conv=>whnf
 refine hS.new (fun b w2 hb2 hS => ?_)
 conv=>whnf
 refine hS.st 1 rfl (lbO rfl) rfl (fun w3 hS => ?_)
 conv=>whnf
 refine hS.la 1 rfl (l := rvl 145 ⟨b1, 0, none⟩) rfl rfl ?_
 conv=>whnf
 refine CallC.extern (x_type _ w3) ?_
 conv=>whnf
 refine ⟨_, _, m_kind _ _, CallC.extern (x_kind1 w3) ?_⟩
 conv=>whnf
 refine PureC.of (fun w => rfl) ?_
 conv=>whnf
 refine hS.la 1 rfl (l := rvl 145 ⟨b1, 0, none⟩) rfl rfl ?_
 conv=>whnf
 refine CallC.extern (x_isNil _ p w3 ((hS.blk 0 rfl).cell 0)) ?_
 conv=>whnf
 refine ⟨_, _, m_elem _ _, CallC.extern (x_elem w3) ?_⟩
 conv=>whnf
 refine ⟨_, _, m_kind _ _, CallC.extern (x_kind2 w3) ?_⟩
 conv=>whnf
 refine PureC.of (fun w => rfl) ?_
 conv=>whnf
 refine hS.ldr hh id ?_
 conv=>whnf
 refine ⟨_, _, m_impl _ _, CallC.extern (x_impl w3) ?_⟩
 conv=>whnf
 refine hS.la 1 rfl (l := rvl 145 ⟨b1, 0, none⟩) rfl rfl ?_
 conv=>whnf
 refine (as_miss e p _ w3).mono ?_
 rintro v w' ⟨rfl, hx⟩
 repeat' ((conv => whnf); first | refine RetC.mk ?_ | refine nzO ?_ | refine rgO ?_ | refine ixO ?_ | (first|apply brD|apply brND|apply brN|apply brI) <;> (intro))
 exact ⟨rfl, (hS.no hx).ext⟩

def allErrs : List Nat := [1, 2, 3, 4, 5, 6, 7, 8, 9, 10, 11]

theorem handle_of {L : List (String × DataW Unit)} {W : World} (hl : laidMetH Tryz.prog L W) (hm : ("errors.errorType", .iface "internal/reflectlite.rtype" (.agg [.ptr (.lit (.string [101, 114, 114, 111, 114]))])) ∈ L) : Handle W := by
 have h2 := (laidMetH_iff.1 hl).2 _ (List.mem_filter.2 ⟨hm, rfl⟩)
 obtain ⟨name, u, ty, e1, e2, e3, e4, e5⟩ := h2
 have en : name = [101, 114, 114, 111, 114] := (Option.some.inj e1).symm
 subst en
 obtain rfl := Option.some.inj ((show (Tryz.prog.cutTypes.find? (·.1 == "internal/reflectlite.rtype")).map (·.2) = some 315 by kernel_rfl).symm.trans e2)
 have hm : ty ∈ (List.range Tryz.prog.types.size).filter fun t => Tryz.prog.rowNamed t [101, 114, 114, 111, 114] := List.mem_filter.2 ⟨List.mem_range.2 e3, e4⟩
 rw [show ((List.range Tryz.prog.types.size).filter fun t => Tryz.prog.rowNamed t [101, 114, 114, 111, 114]) = [25] by kernel_rfl] at hm
 obtain rfl := List.mem_singleton.1 hm
 have hh : typeHandle Tryz.prog 25 = hv 25 := by kernel_rfl
 rw [hh] at e5
 have := World.var?_cell (show Tryz.prog.globalNamed "errors.errorType" = some 12 by kernel_rfl) e5 0
 simpa [Handle, rt] using this
end Go.Proofs.YtogjajjdaoihdaaGreatDoor

namespace Go.Proofs.YtogjajjdaoihdaaGreatDoor
set_option maxRecDepth 20000
open Go Ev Go.Extern

section
variable {w : World} {b : Nat}
end

end Go.Proofs.YtogjajjdaoihdaaGreatDoor

namespace Go.Proofs.YtogjajjdaoihdaaGreatDoor
set_option maxRecDepth 20000
open Go Ev

theorem Ev.St.ref {w0 w : World} {S : Nat → Prop} {H : List Ent} (_ : St w0 S w H) (T : Nat → Prop) : Ext T w w := Ext.refl _ _
theorem Ev.St.stK {w0 w1 w : World} {S T : Nat → Prop} {H : List Ent} (h : St w0 S w H) (hK : Ext T w1 w) (i : Nat) {b o : Nat} {t : TypeId} {cs vs : List Value} {k : World → Prop} (hi : H[i]? = some (Ev.blk b t cs)) (hle : o + vs.length ≤ cs.length) (h1 : vs.all isOne = true) (hT : T b)
   (hk : ∀ w', Ext T w1 w' → St w0 S w' (H.set i (Ev.blk b t (over cs o vs))) → k w') : StC w b o vs k := by
 have hb := h.blk i hi
 have hx : Ext (· = b) w (setBlk w b t (over cs o vs)) := Ext.set (S := (· = b)) (b := b) rfl t _
 exact ⟨t, cs, hb, hle, by simpa using h1, hk _ (hK.trans (hx.mono fun c hc => hc ▸ hT)) (h.upd i hi hx (fun c hc => by simp [Ev.blk, hc]) (blk_local _ _ _) (setBlk_blk hb.lt) (fun c hc => .inl hc))⟩
theorem Ev.St.newK {w0 w1 w : World} {S T : Nat → Prop} {H : List Ent} (h : St w0 S w H) (hK : Ext T w1 w) {t : TypeId} {cs : List Value} {k : Value → World → Prop} (hk : ∀ b w', Ext T w1 w' → St w0 S w' (H ++ [Ev.blk b t cs]) → k (.pointer (some ⟨b, 0, none⟩)) w') : NewC w t cs k := by
 obtain ⟨h1⟩ := h.new (t := t) (cs := cs) (k := fun v w' => Ext T w1 w' → k v w') (fun b w' _ hS hx => hk b w' hx hS)
 exact ⟨h1 (hK.trans (Ext.push _ _ _ _))⟩
end Go.Proofs.YtogjajjdaoihdaaGreatDoor

namespace Go.Proofs.YtogjajjdaoihdaaGreatDoor
set_option maxRecDepth 20000
open Go Ev

def tickErrs : List Nat := [2, 3, 4, 5, 6, 7, 10, 11]
def insErrs : List Nat := [2, 3, 4, 5, 6, 7, 8, 9, 10, 11]
structure NodeA where
 n : Nat
 r : Nat
 c : Nat
 t : Nat
 x : Nat
 m : Nat
 b : Nat
 ra : Option Addr
 rc : Nat
def encNode (A : NodeA) (N : NodeS) : List Value := [.pointer (some ⟨A.r, 0, none⟩), .int .i64 N.id, .int .i64 N.now, .pointer (some ⟨A.c, 0, none⟩), .pointer (some ⟨A.t, 0, none⟩), .pointer (some ⟨A.x, 0, none⟩), .pointer (some ⟨A.m, 0, none⟩), .slice A.ra N.rules.length A.rc]
def nodeH (A : NodeA) (N : NodeS) : List Ent := [blk A.n 268 (encNode A N), blk A.r 335 (encRole N.role), blk A.c 332 (encCl A.b N.cell), blk A.t 330 (encM N.tab), blk A.x 338 (encTel A.t N.tel), blk A.m 340 (encM N.mir), ownL 98 5 encRule (.slice A.ra N.rules.length A.rc) N.rules]
def High (H : List Ent) (q : Nat) : Prop := ∀ b, inF H b → q ≤ b
theorem flowErr_find {T : MirS} (hl : T.cells.length = 32) (p : FlowS → Bool) (h : 0 ≤ idxI (there p) T.cells 0) : T.flowErr (idxI (there p) T.cells 0) = 0 ∧ ∃ c, T.cells[(idxI (there p) T.cells 0).toNat]? = some c ∧ c.f = flowAt T (idxI (there p) T.cells 0) ∧ c.f.proto ≠ 0 ∧ idxI (there p) T.cells 0 < 32 := by
 obtain ⟨j, c, hj, hp, he, _⟩ := idxI_spec (there p) T.cells 0 h
 have lt := (List.getElem?_eq_some_iff.1 hj).1
 have hjj : (idxI (there p) T.cells 0).toNat = j := by omega
 have hc : c.f.proto ≠ 0 := by
   unfold there at hp
   simp only [Bool.and_eq_true, decide_eq_true_eq] at hp
   exact hp.1
 refine ⟨?_, c, by rw [hjj]; exact hj, ?_, hc, by omega⟩
 · unfold MirS.flowErr
   rw [if_neg (by omega), hjj, hj]
   exact if_neg hc
 · unfold flowAt
   rw [hjj, hj]

section
variable {w : World} {A : NodeA} {N : NodeS}
theorem timeS_bound (p s : Int) : 0 ≤ timeS p s ∧ timeS p s ≤ 100 := by
 unfold timeS
 repeat' split
 all_goals omega
theorem npass_ok {E : Nat → Addr} {q m : Nat} (k : Int) (p : PktS) (out : Bool) (hN : Has w (nodeH A N)) (hO : NOk m N) (hm : m ≤ 50000000) (hk : N.tab.flowErr k = 0) (hE : Errs w E q insErrs) (hq : High (nodeH A N) q) :
   CallC Tryz.prog 227 #[.pointer (some ⟨A.n, 0, none⟩), .int .i64 k, .agg (encPkt p).toArray, .bool out] w fun v w' => v = .tuple #[.agg (encFlow (flowAt N.tab k)).toArray, .nilIface] ∧ Turns w w' (nodeH A N) (nodeH A (N.pass k p.flags out)) := by
 have hv := hO.tab.verOk (by omega)
 have hin : 0 ≤ k ∧ k < 32 := by
   unfold MirS.flowErr at hk
   split at hk
   · omega
   · omega
 obtain ⟨c, hc⟩ : ∃ c, N.tab.cells[k.toNat]? = some c := ⟨_, List.getElem?_eq_getElem (by rw [hO.tab.len]; omega)⟩
 have hcf : c.f = flowAt N.tab k := by unfold flowAt; rw [hc]
 have hd : (N.tab.drop k).1 = 0 := by unfold MirS.drop; rw [if_neg (by omega)]
 have hs : ∀ a b, (N.tab.setS k a b).1 = 0 := fun a b => by unfold MirS.setS; rw [if_neg (by omega)]
 refine fn_intro tabOk Tryz.func227 (by kernel_rfl) rfl Tryz.ntmps227 (lbO rfl) ?_
 have hS := hN.start
 conv=>whnf
 refine hS.new (fun bp w' hbp hS => ?_)
 conv=>whnf
 refine hS.new (fun bf w' hbf hS => ?_)
 conv=>whnf
 refine hS.ld 0 rfl rfl ?_
 conv=>whnf
 refine (tget_ok k (hS.blk 3 rfl) hin.1 hin.2 hc).mono ?_
 rintro v w2 ⟨rfl, hx⟩
 replace hS := hS.no hx
 conv=>whnf
 refine hS.new (fun bc w' hbc hS => ?_)
 conv=>whnf
 refine hS.st 9 rfl (lbO rfl) rfl (fun w' hS => ?_)
 replace hS : St w (inF (nodeH A N)) w' (nodeH A N ++ [blk bp 41 (encPkt p), blk bf 207 (encFlow noFlow), blk bc 209 (encCell c)]) := hS
 repeat' ((conv => whnf); first | refine RetC.mk ?_ | refine nzO ?_ | refine rgO ?_ | refine ixO ?_ | refine hS.ld 0 rfl rfl ?_ | refine hS.ld 1 rfl rfl ?_ | refine hS.ld 2 rfl rfl ?_ | refine hS.ld 3 rfl rfl ?_ | refine hS.ld 4 rfl rfl ?_ | refine hS.ld 5 rfl rfl ?_ | refine hS.ld 6 rfl rfl ?_ | refine hS.ld 7 rfl rfl ?_ | refine hS.ld 8 rfl rfl ?_ | refine hS.ld 9 rfl rfl ?_ | refine hS.laX 0 rfl rfl ?_ | refine hS.laX 1 rfl rfl ?_ | refine hS.laX 2 rfl rfl ?_ | refine hS.laX 3 rfl rfl ?_ | refine hS.laX 4 rfl rfl ?_ | refine hS.laX 5 rfl rfl ?_ | refine hS.laX 6 rfl rfl ?_ | refine hS.laX 7 rfl rfl ?_ | refine hS.laX 8 rfl rfl ?_ | refine hS.laX 9 rfl rfl ?_ | (refine (next_ok c.f.proto c.f.state p.flags out _).mono ?_; rintro v w3 ⟨rfl, rfl⟩) | (first|apply brD|apply brND|apply brN|apply brI) <;> (intro))
 all_goals
   have hqF : ∀ b, inF (nodeH A N) b → q ≤ b := hq
   have hn1 := hS.ne 0 3 rfl rfl (by decide)
   have hn2 := hS.ne 0 8 rfl rfl (by decide)
   have hn3 := hS.ne 9 3 rfl rfl (by decide)
   have hn4 := hS.ne 9 8 rfl rfl (by decide)
   conv=>whnf
 · rename_i hg
   have hgone : N.pass k p.flags out = { N with tab := (N.tab.drop k).2 } := by
     unfold NodeS.pass
     rw [← hcf, hg]
   (refine drawS tabOk mixed [] (fun b => b = A.t ∨ b = bf) [0, 1, 2, 3, 4, 5, 6, 7, 8, 9] (by kernel_rfl) ?_; rintro w1 rfl; replace hS := hS.drew)
   have hK := hS.ref (fun b => b = A.t ∨ b = bf)
   repeat' ((conv => whnf); first | refine hS.laXF 9 rfl rfl (fun h => h.elim hn3 hn4) ?_ | refine hS.ldF 0 rfl rfl (fun h => h.elim hn1 hn2) ?_)
   refine (tdrop_ok k (hS.blk 3 rfl) hO.tab.len hv ((hE.ext hS.ext hqF).sub rfl)).mono ?_
   rintro v w' ⟨rfl, hx, hB⟩
   replace hS := hS.upd 3 rfl hx (fun c hc => by subst hc; exact List.mem_singleton.2 rfl) (blk_local _ _ _) hB (fun c hc => .inl hc)
   replace hK := hK.trans (hx.mono fun c hc => .inl hc)
   refine KeepC.mk hK ?_
   conv=>whnf
   refine hS.stK hK 8 rfl (lbO rfl) rfl (.inr rfl) (fun w' hK hS => KeepC.mk hK ?_)
   conv=>whnf
   refine hS.laX 8 rfl rfl ?_
   repeat' ((conv => whnf); first | refine RetC.mk ?_ | refine nzO ?_ | refine rgO ?_ | refine ixO ?_ | (first|apply brD|apply brND|apply brN|apply brI) <;> (intro))
   rw [hd, hgone]
   exact ⟨by rw [← hcf]; rfl, (hS.keep 7).turns⟩
 · rename_i hg
   have hstay : N.pass k p.flags out = { N with tab := (N.tab.setS k (nextS c.f.proto c.f.state p.flags out).1 (N.now + timeS c.f.proto (nextS c.f.proto c.f.state p.flags out).1)).2 } := by
     unfold NodeS.pass
     rw [← hcf, hg]
   (refine drawS tabOk mixed [] (fun b => b = A.t ∨ b = bf) [0, 1, 2, 3, 4, 5, 6, 7, 8, 9, 10, 11, 12, 13, 14, 15, 16, 17, 18, 19, 20] (by kernel_rfl) ?_; rintro w1 rfl; replace hS := hS.drew)
   have hK := hS.ref (fun b => b = A.t ∨ b = bf)
   repeat' ((conv => whnf); first | refine hS.laXF 9 rfl rfl (fun h => h.elim hn3 hn4) ?_ | refine hS.ldF 9 rfl rfl (fun h => h.elim hn3 hn4) ?_ | refine hS.ldF 0 rfl rfl (fun h => h.elim hn1 hn2) ?_)
   refine (time_ok _ _ _).mono ?_
   rintro v w' ⟨rfl, hx⟩
   replace hS := hS.no hx
   replace hK := hK.trans hx.of_no
   refine KeepC.mk hK ?_
   have htb := timeS_bound c.f.proto (nextS c.f.proto c.f.state p.flags out).1
   have hn0 := hO.n0
   have hn9 := hO.n1
   repeat' ((conv => whnf); first | refine RetC.mk ?_ | refine nzO ?_ | refine rgO ?_ | refine ixO ?_ | (first|apply brD|apply brND|apply brN|apply brI) <;> (intro))
   refine (tset_ok k _ _ (hS.blk 3 rfl) hO.tab.len hv ((hE.ext hS.ext hqF).sub rfl)).mono ?_
   rintro v w' ⟨rfl, hx, hB⟩
   replace hS := hS.upd 3 rfl hx (fun c hc => by subst hc; exact List.mem_singleton.2 rfl) (blk_local _ _ _) hB (fun c hc => .inl hc)
   replace hK := hK.trans (hx.mono fun c hc => .inl hc)
   refine KeepC.mk hK ?_
   conv=>whnf
   refine hS.stK hK 8 rfl (lbO rfl) rfl (.inr rfl) (fun w' hK hS => KeepC.mk hK ?_)
   conv=>whnf
   refine hS.laX 8 rfl rfl ?_
   repeat' ((conv => whnf); first | refine RetC.mk ?_ | refine nzO ?_ | refine rgO ?_ | refine ixO ?_ | (first|apply brD|apply brND|apply brN|apply brI) <;> (intro))
   rw [hs, hstay]
   exact ⟨by rw [← hcf]; rfl, (hS.keep 7).turns⟩

theorem Errs.out {E : Nat → Addr} {n : Nat} {ks : List Nat} {S : Nat → Prop} (h : Errs w E n ks) (k : Nat) (hk : ks.contains k = true) (hS : ∀ b, S b → n ≤ b) : ¬ S (gErr k) := fun hs => by
 have := hS _ hs
 have := h.lt k hk
 omega
theorem nbegin_ok {E : Nat → Addr} {q m : Nat} (p : PktS) (hN : Has w (nodeH A N)) (hO : NOk m N) (hm : m ≤ 50000000) (hp : p.err = 0) (hE : Errs w E q insErrs) (hq : High (nodeH A N) q) :
   CallC Tryz.prog 228 #[.pointer (some ⟨A.n, 0, none⟩), .agg (encPkt p).toArray] w fun v w' => v = .tuple #[.int .i64 (N.begin p).1.1, errV E (N.begin p).1.2] ∧ Turns w w' (nodeH A N) (nodeH A (N.begin p).2) := by
 have hv := hO.tab.verOk (by omega)
 have hg : (faultL N.rules).1 = 0 := fault_good.2 hO.rules
 have hqF : ∀ b, inF (nodeH A N) b → q ≤ b := hq
 have hlif : 0 ≤ N.tab.life ∧ N.tab.life ≤ 100000 := by
   have := hO.lif
   have := hO.id
   omega
 refine fn_intro tabOk Tryz.func228 (by kernel_rfl) rfl Tryz.ntmps228 (lbO rfl) ?_
 have hS := hN.start
 conv=>whnf
 refine hS.new (fun bp w' hbp hS => ?_)
 replace hS : St w (inF (nodeH A N)) w' (nodeH A N ++ [blk bp 41 (encPkt p)]) := hS
 conv=>whnf
 (refine drawS tabOk mixed [] No [0, 1, 2, 3, 4, 5, 6, 7, 8, 9, 10] (by kernel_rfl) ?_; rintro w1 rfl; replace hS := hS.drew)
 repeat' ((conv => whnf); first | refine hS.laXF 7 rfl rfl id ?_ | refine hS.ldF 0 rfl rfl id ?_)
 refine (admitsP_ok (G := fun _ => True) (ownL_slc codRule (hS.get 6 rfl) (fun _ _ => trivial)) p true ((hE.ext hS.ext hqF).sub rfl)).mono ?_
 rintro v w2 ⟨⟨e, rfl, hF⟩, hx⟩
 rw [if_pos hg, if_pos hg, hp] at hF
 obtain rfl : e = .nilIface := by
   rcases hF with ⟨_, h⟩ | ⟨h, _⟩
   · exact h
   · omega
 rw [show (decide (GoodR N.rules ∧ p.err = 0) && admitsL p.proto p.dp true N.rules) = admitsL p.proto p.dp true N.rules by rw [decide_eq_true ⟨hO.rules, hp⟩, Bool.true_and]]
 replace hS := hS.no hx
 refine KeepC.mk hx ?_
 cases hA : admitsL p.proto p.dp true N.rules
 · have hb : N.begin p = ((0, 8), N) := if_pos hA
   rw [hb]
   conv=>whnf
   (refine drawS tabOk mixed [] No [0, 1, 2] (by kernel_rfl) ?_; rintro w1 rfl; replace hS := hS.drew)
   conv=>whnf
   refine hS.ldrF (hE.at_ 8 rfl) (Errs.out hE 8 rfl hqF) id ?_
   repeat' ((conv => whnf); first | refine RetC.mk ?_ | refine nzO ?_ | refine rgO ?_ | refine ixO ?_ | (first|apply brD|apply brND|apply brN|apply brI) <;> (intro))
   exact ⟨rfl, (hS.keep 7).turns⟩
 · (conv => whnf)
   refine hS.ld 7 rfl rfl ?_
   conv=>whnf
   refine hS.ld 7 rfl rfl ?_
   conv=>whnf
   refine (begin_ok _ _ _ ((hE.ext hS.ext hqF).sub rfl)).mono ?_
   rintro v w3 ⟨rfl, hx⟩
   replace hS := hS.no hx
   have hb : N.begin p = _ := if_neg (by rw [hA]; decide)
   rw [hb]
   clear hb hF
   generalize beginS p.proto p.flags = r
   obtain ⟨s, kk⟩ := r
   cases kk with
   | succ j =>
     rw [if_pos (show ((s, j + 1) : Int × Nat).2 ≠ 0 by simp)]
     repeat' ((conv => whnf); first | refine RetC.mk ?_ | refine nzO ?_ | refine rgO ?_ | refine ixO ?_ | (first|apply brD|apply brND|apply brN|apply brI) <;> (intro))
     exact ⟨rfl, (hS.keep 7).turns⟩
   | zero =>
     rw [if_neg (show ¬ ((s, 0) : Int × Nat).2 ≠ 0 by simp)]
     dsimp only
     have htb := timeS_bound p.proto s
     have hn0 := hO.n0
     have hn9 := hO.n1
     have hn1 := hS.ne 0 3 rfl rfl (by decide)
     have hn2 := hS.ne 7 3 rfl rfl (by decide)
     conv=>whnf
     (refine drawS tabOk mixed [] (fun b => b = A.t) [0, 1, 2, 3, 4, 5, 6, 7, 8, 9, 10, 11, 12, 13, 14, 15, 16, 17, 18, 19, 20, 21, 22, 23, 24] (by kernel_rfl) ?_; rintro w1 rfl; replace hS := hS.drew)
     have hK := hS.ref (fun b => b = A.t)
     repeat' ((conv => whnf); first | refine hS.laXF 7 rfl rfl hn2 ?_ | refine hS.ldF 7 rfl rfl hn2 ?_ | refine hS.ldF 0 rfl rfl hn1 ?_)
     refine (time_ok _ _ _).mono ?_
     rintro v w' ⟨rfl, hx⟩
     replace hS := hS.no hx
     replace hK := hK.trans hx.of_no
     refine KeepC.mk hK ?_
     repeat' ((conv => whnf); first | refine RetC.mk ?_ | refine nzO ?_ | refine rgO ?_ | refine ixO ?_ | (first|apply brD|apply brND|apply brN|apply brI) <;> (intro))
     refine (tadd_ok _ _ _ _ _ _ _ (hS.blk 3 rfl) hO.tab.len hv hlif ((hE.ext hS.ext hqF).sub rfl) (hqF A.t ⟨_, List.mem_of_getElem? (i := 3) rfl, List.mem_singleton.2 rfl⟩)).mono ?_
     rintro v w' ⟨rfl, hx, hB⟩
     replace hS := hS.upd 3 rfl hx (fun c hc => by subst hc; exact List.mem_singleton.2 rfl) (blk_local _ _ _) hB (fun c hc => .inl hc)
     replace hK := hK.trans hx
     refine KeepC.mk hK ?_
     repeat' ((conv => whnf); first | refine RetC.mk ?_ | refine nzO ?_ | refine rgO ?_ | refine ixO ?_ | (first|apply brD|apply brND|apply brN|apply brI) <;> (intro))
     exact ⟨rfl, (hS.keep 7).turns⟩
end
end Go.Proofs.YtogjajjdaoihdaaGreatDoor
