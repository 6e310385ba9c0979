
/-
  Names returns true.
-/
import Derived.Test.YtakdekkieobbaaaDoorFault
import Derived.Test.YtakdekkieobbaaaDoorPolicyS
namespace Go.Proofs.YtakdekkieobbaaaDoor
open Go Ev Go.Extern

theorem take_next {α : Type} {xs ys : List α} {k : Nat} {x y : α} (hx : xs[k]? = some x) (hy : ys[k]? = some y) (h : xs.take k = ys.take k) (he : x = y) : xs.take (k + 1) = ys.take (k + 1) := by
  rw [List.take_add_one, List.take_add_one, hx, hy, h, he]
theorem sameInts1_ok {w : World} {G G' : Int → Prop} {a b : Option Addr} {n c d : Nat} {xs : List Int} (hx : Slc w 1 encI1 G a n xs) (hy : Slc w 1 encI1 G' b n xs) :
    CallC Tryd.prog 21 #[.slice a n c, .slice b n d] w fun v w' => v = .bool true ∧ Ext No w w' := by
  have hm := hx.max
  have hl := hx.len
  refine fn_intro tabOk Tryd.func21 (by kernel_rfl) rfl Tryd.ntmps21 (Nat.le_of_ble_eq_true rfl) ?_
  have hS := St.start w No
  (conv => whnf)
  refine brND (fun h => absurd rfl h) (fun _ => ?_)
  (conv => whnf)
  refine loopR tabOk (fun σ w' q => ∃ k : Nat, σ = [(5, .int .i64 (k : Int)), (1, .slice b n d), (0, .slice a n c)] ∧ q = n - k ∧ k ≤ n ∧ St w No w' [])
    (σ' := [(5, .int .i64 ((0 : Nat) : Int)), (1, .slice b n d), (0, .slice a n c)]) (n := n) ⟨rfl, rfl, rfl, trivial⟩ ⟨0, rfl, rfl, Nat.zero_le _, hS⟩ ?_
  clear hS
  rintro _ w1 q ⟨k, rfl, rfl, hk, hS⟩
  (conv => whnf)
  refine brD (fun h3 => ?_) (fun h3 => ?_)
  · obtain ⟨b0, o0, x, hxk, _, rfl, _, hc⟩ := hx.at (k := k) (by omega)
    obtain ⟨b1, o1, y, hyk, _, rfl, _, hd⟩ := hy.at (k := k) (by omega)
    obtain rfl := Option.some.inj (hxk.symm.trans hyk)
    (conv => whnf)
    (refine drawS tabOk mixed [] No [0, 1, 2, 3, 4, 5, 6, 7, 8] (by kernel_rfl) ?_; rintro w1 rfl; replace hS := hS.drew)
    repeat' ((conv => whnf); first | refine RetC.mk ?_ | refine NzC.mk (by decide) ?_ | refine RngC.mk (by omega) (by omega) ?_ | refine IdxC.mk (by omega) (by omega) ?_ | refine hS.ldrF (hc.one 0 rfl) id id ?_ | refine hS.ldrF (hd.one 0 rfl) id id ?_ | refine brD (fun _ => ?_) (fun _ => ?_) | refine brND (fun _ => ?_) (fun _ => ?_) | refine brN (fun _ => ?_) (fun _ => ?_) | refine brI (fun _ => ?_) (fun _ => ?_))
    · rename_i h4
      exact absurd rfl h4
    · skip
      refine LoopE.mk ⟨_, [(5, .int .i64 ((k + 1 : Nat) : Int)), (1, _), (0, _)], ?_, ⟨rfl, rfl, rfl, trivial⟩, ⟨k + 1, rfl, rfl, by omega, hS⟩⟩
      omega
  · repeat' ((conv => whnf); first | refine RetC.mk ?_ | refine NzC.mk (by decide) ?_ | refine RngC.mk (by omega) (by omega) ?_ | refine IdxC.mk (by omega) (by omega) ?_ | refine brD (fun _ => ?_) (fun _ => ?_) | refine brND (fun _ => ?_) (fun _ => ?_) | refine brN (fun _ => ?_) (fun _ => ?_) | refine brI (fun _ => ?_) (fun _ => ?_))
    exact ⟨rfl, hS.ext⟩

/-- errors.is, one round, at an error of another make. -/
theorem is_ne {E : Nat → Addr} {n : Nat} {ks : List Nat} {c : Array Value} {t : TypeId} (e : Addr) (k : Nat) (w : World) (hE : Errs w E n ks) (hk : ks.contains k = true) (he : w.heap[e.block]? = some (.cells c t (0, 0))) (hne : e ≠ E k) :
    CallC Tryd.prog 73 #[.iface 98 (.pointer (some e)), .iface 98 (.pointer (some (E k))), .bool true] w fun v w' => v = .bool false ∧ Ext No w w' := by
  refine fn_intro tabOk Tryd.func73 (by kernel_rfl) rfl Tryd.ntmps73 (Nat.le_of_ble_eq_true rfl) ?_
  have hS := St.start w No
  (conv => whnf)
  refine loopR tabOk (fun σ w' n => σ = [(2, .bool true), (1, .iface 98 (.pointer (some (E k)))), (0, .iface 98 (.pointer (some e)))] ∧ w = w')
    (σ' := [(2, .bool true), (1, .iface 98 (.pointer (some (E k)))), (0, .iface 98 (.pointer (some e)))]) (n := 0) ⟨rfl, rfl, rfl, trivial⟩ ⟨rfl, rfl⟩ ?_
  clear hS
  rintro _ w1 n ⟨rfl, rfl⟩
  (conv => whnf)
  obtain ⟨i1, hi1, hcmp⟩ := Option.map_eq_some_iff.1 (show (Tryd.prog.info? 98).map (·.comparable) = some true by kernel_rfl)
  obtain ⟨i2, hi2, hsz⟩ := Option.map_eq_some_iff.1 (show (Tryd.prog.info? 100).map (·.size) = some 1 by kernel_rfl)
  obtain ⟨⟨c2, t2, h2⟩, _⟩ := hE.row k hk
  refine ⟨_, run_eql_iface_ptr_other w Tryd.underlying32 Tryd.underlying98 hi1 hcmp hi2 (by rw [hsz]; decide) hne he h2, ?_⟩
  (conv => whnf)
  refine ⟨_, _, ta_is _ w, ?_⟩
  (conv => whnf)
  refine ⟨_, _, ta_un _ w, ?_⟩
  (conv => whnf)
  refine ⟨_, _, ta_uns _ w, ?_⟩
  repeat' ((conv => whnf); first | refine RetC.mk ?_ | refine NzC.mk (by decide) ?_ | refine RngC.mk (by omega) (by omega) ?_ | refine IdxC.mk (by omega) (by omega) ?_ | refine brD (fun _ => ?_) (fun _ => ?_) | refine brND (fun _ => ?_) (fun _ => ?_) | refine brN (fun _ => ?_) (fun _ => ?_) | refine brI (fun _ => ?_) (fun _ => ?_))
  exact ⟨rfl, Ext.refl _ _⟩
theorem errorsIs_ne {E : Nat → Addr} {n : Nat} {ks : List Nat} {c : Array Value} {t : TypeId} (e : Addr) (k : Nat) (w : World) (hE : Errs w E n ks) (hk : ks.contains k = true) (he : w.heap[e.block]? = some (.cells c t (0, 0))) (hne : e ≠ E k) :
    CallC Tryd.prog 44 #[.iface 98 (.pointer (some e)), .iface 98 (.pointer (some (E k)))] w fun v w' => v = .bool false ∧ Ext No w w' := by
  refine fn_intro tabOk Tryd.func44 (by kernel_rfl) rfl Tryd.ntmps44 (Nat.le_of_ble_eq_true rfl) ?_
  (conv => whnf)
  refine CallC.extern (x_typeOf (E k) w) ?_
  (conv => whnf)
  refine ⟨_, _, m_comp _ _, CallC.extern (x_comp w) ?_⟩
  (conv => whnf)
  refine (is_ne e k w hE hk he hne).mono ?_
  rintro v w' ⟨rfl, hx⟩
  repeat' ((conv => whnf); first | refine RetC.mk ?_ | refine NzC.mk (by decide) ?_ | refine RngC.mk (by omega) (by omega) ?_ | refine IdxC.mk (by omega) (by omega) ?_ | refine brD (fun _ => ?_) (fun _ => ?_) | refine brND (fun _ => ?_) (fun _ => ?_) | refine brN (fun _ => ?_) (fun _ => ?_) | refine brI (fun _ => ?_) (fun _ => ?_))
  exact ⟨rfl, hx⟩
theorem codeN_ok {E : Nat → Addr} {n b : Nat} {cs : List Value} (w : World) (hE : Errs w E n allErrs) (hh : Handle w) (hb : Blk w b 100 cs) (hn : ∀ k, allErrs.contains k = true → (⟨b, 0, none⟩ : Addr) ≠ E k) :
    CallC Tryd.prog 22 #[.iface 98 (.pointer (some ⟨b, 0, none⟩))] w fun v w' => v = .tuple #[.int .i64 (-1), .int .i64 (-1)] ∧ Ext No w w' := by
  have hin : ∀ j, j < 11 → allErrs.contains (j + 1) = true := by
    intro j hj
    match j, hj with
    | 0, _ | 1, _ | 2, _ | 3, _ | 4, _ | 5, _ | 6, _ | 7, _ | 8, _ | 9, _ | 10, _ => rfl
    | n + 11, h => omega
  refine fn_intro tabOk Tryd.func22 (by kernel_rfl) rfl Tryd.ntmps22 (Nat.le_of_ble_eq_true rfl) ?_
  have hS := St.start w No
  (conv => whnf)
  refine hS.new (fun b4 w2 hb2 hS => ?_)
  (conv => whnf)
  refine (errorsAs_miss ⟨b, 0, none⟩ ⟨b4, 0, none⟩ w2 (hh.ext hS.ext)).mono ?_
  rintro v w' ⟨rfl, hx⟩
  replace hS := hS.no hx
  repeat' ((conv => whnf); first | refine hS.ldr (hE.at_ 1 rfl) id ?_ | refine hS.ldr (hE.at_ 2 rfl) id ?_ | refine hS.ldr (hE.at_ 3 rfl) id ?_ | refine hS.ldr (hE.at_ 4 rfl) id ?_ | refine hS.ldr (hE.at_ 5 rfl) id ?_ | refine hS.ldr (hE.at_ 6 rfl) id ?_ | refine hS.ldr (hE.at_ 7 rfl) id ?_ | refine hS.ldr (hE.at_ 8 rfl) id ?_ | refine hS.ldr (hE.at_ 9 rfl) id ?_ | refine hS.ldr (hE.at_ 10 rfl) id ?_ | refine hS.ldr (hE.at_ 11 rfl) id ?_)
  refine hS.lit (cs := allErrs.map fun k => Value.iface 98 (.pointer (some (E k)))) Tryd.underlying50 (sz := 1) (by kernel_rfl) (z := .nilIface) (by kernel_rfl) rfl rfl (by kernel_rfl) (fun bs w4 hbs hS => ?_)
  (conv => whnf)
  refine loopR tabOk (fun σ w' n => ∃ j : Nat, σ = [(29, .int .i64 j), (28, .int .i64 11), (27, .slice (some ⟨bs, 0, none⟩) 11 11), (3, .int .i64 (-1)), (0, .iface 98 (.pointer (some ⟨b, 0, none⟩)))] ∧ n = 11 - j ∧ j ≤ 11 ∧ St w No w' [blk b4 53 [.pointer none], blk bs 32 (allErrs.map fun k => Value.iface 98 (.pointer (some (E k))))])
    (σ' := [(29, .int .i64 ((0 : Nat) : Int)), (28, .int .i64 11), (27, .slice (some ⟨bs, 0, none⟩) 11 11), (3, .int .i64 (-1)), (0, .iface 98 (.pointer (some ⟨b, 0, none⟩)))]) (n := 11) ⟨rfl, rfl, rfl, rfl, rfl, trivial⟩ ⟨0, rfl, rfl, Nat.zero_le _, hS⟩ ?_
  clear hS hx
  rintro _ w1 n ⟨j, rfl, rfl, hj, hS⟩
  (conv => whnf)
  refine brD (fun h3 => ?_) (fun h3 => ?_)
  · (conv => whnf)
    refine IdxC.mk (by omega) (by omega) ?_
    (conv => whnf)
    refine hS.ld 1 rfl (elem_at E j (by omega)) ?_
    (conv => whnf)
    refine (errorsIs_ne ⟨b, 0, none⟩ (j + 1) w1 (hE.ext hS.ext (fun _ h => h.elim)) (hin j (by omega)) (hS.ext.blk hb id) (hn _ (hin j (by omega)))).mono ?_
    rintro v w' ⟨rfl, hx⟩
    replace hS := hS.no hx
    (conv => whnf)
    refine RngC.mk (by omega) (by omega) ?_
    (conv => whnf)
    exact LoopE.mk ⟨_, [(29, .int .i64 ((j + 1 : Nat) : Int)), (28, _), (27, _), (3, _), (0, _)], by omega, ⟨rfl, rfl, rfl, rfl, rfl, trivial⟩, ⟨j + 1, rfl, rfl, by omega, hS⟩⟩
  · repeat' ((conv => whnf); first | refine RetC.mk ?_ | refine NzC.mk (by decide) ?_ | refine RngC.mk (by omega) (by omega) ?_ | refine IdxC.mk (by omega) (by omega) ?_ | refine brD (fun _ => ?_) (fun _ => ?_) | refine brND (fun _ => ?_) (fun _ => ?_) | refine brN (fun _ => ?_) (fun _ => ?_) | refine brI (fun _ => ?_) (fun _ => ?_))
    exact ⟨rfl, hS.ext⟩
theorem errNew_ok (s : ByteArray) (w : World) : CallC Tryd.prog 24 #[.string s] w fun v w' => ∃ b, v = .iface 98 (.pointer (some ⟨b, 0, none⟩)) ∧ w.heap.size ≤ b ∧ Ext No w w' ∧ Blk w' b 100 [.string s] := by
  refine fn_intro tabOk Tryd.func24 (by kernel_rfl) rfl Tryd.ntmps24 (Nat.le_of_ble_eq_true rfl) ?_
  have hS := St.start w No
  repeat' ((conv => whnf); first | refine RetC.mk ?_ | refine NzC.mk (by decide) ?_ | refine RngC.mk (by omega) (by omega) ?_ | refine IdxC.mk (by omega) (by omega) ?_ | refine hS.new (fun b w' hb hS => ?_) | refine brD (fun _ => ?_) (fun _ => ?_) | refine brND (fun _ => ?_) (fun _ => ?_) | refine brN (fun _ => ?_) (fun _ => ?_) | refine brI (fun _ => ?_) (fun _ => ?_))
  exact ⟨b, rfl, hb, hS.ext, hS.blk 0 rfl⟩

def nums1 : List Int := [1048576, 65535, 2000, 24, 32, 20, 3000, 1099511627776, 1073741824, 8, 3, 9, 64, 200, 1000, 3000, 100, 16, 1]
def nums2 : List Int := [1, 2, 1, 2, 4, 8, 1, 2, 3]
theorem names_ok {E : Nat → Addr} (W : World) (hE : Errs W E W.heap.size allErrs) (hh : Handle W) :
    CallC Tryd.prog 6 #[] W fun v w' => v = .bool true ∧ Ext No W w' := by
  have hin : ∀ j, j < 11 → allErrs.contains (j + 1) = true := by
    intro j hj
    match j, hj with
    | 0, _ | 1, _ | 2, _ | 3, _ | 4, _ | 5, _ | 6, _ | 7, _ | 8, _ | 9, _ | 10, _ => rfl
    | n + 11, h => omega
  refine fn_intro tabOk Tryd.func6 (by kernel_rfl) rfl Tryd.ntmps6 (Nat.le_of_ble_eq_true rfl) ?_
  have hS := St.start W No
  (conv => whnf)
  refine hS.lit (cs := nums1.map fun k => .int .i64 k) Tryd.underlying48 (sz := 1) (by kernel_rfl) (z := .int .i64 0) (by kernel_rfl) rfl rfl (by rfl) (fun b1 w' hb1 hS => ?_)
  (conv => whnf)
  refine hS.lit (cs := nums1.map fun k => .int .i64 k) Tryd.underlying48 (sz := 1) (by kernel_rfl) (z := .int .i64 0) (by kernel_rfl) rfl rfl (by rfl) (fun b2 w' hb2 hS => ?_)
  (conv => whnf)
  refine hS.lit (cs := nums2.map fun k => .int .i64 k) Tryd.underlying48 (sz := 1) (by kernel_rfl) (z := .int .i64 0) (by kernel_rfl) rfl rfl (by rfl) (fun b3 w' hb3 hS => ?_)
  have s1 : Slc w' 1 encI1 (fun _ => True) (some ⟨b1, 0, none⟩) 19 nums1 := Slc.of_blk codI1 (hS.blk 0 rfl) rfl (by decide) (fun _ _ => trivial) rfl
  have s2 : Slc w' 1 encI1 (fun _ => True) (some ⟨b2, 0, none⟩) 19 nums1 := Slc.of_blk codI1 (hS.blk 1 rfl) rfl (by decide) (fun _ _ => trivial) rfl
  (conv => whnf)
  refine (sameInts1_ok s1 s2).mono ?_
  rintro v w2 ⟨rfl, hx⟩
  replace hS := hS.no hx
  clear hx s1 s2
  (conv => whnf)
  refine hS.lit (cs := nums2.map fun k => .int .i64 k) Tryd.underlying48 (sz := 1) (by kernel_rfl) (z := .int .i64 0) (by kernel_rfl) rfl rfl (by rfl) (fun b4 w' hb4 hS => ?_)
  have s1 : Slc w' 1 encI1 (fun _ => True) (some ⟨b3, 0, none⟩) 9 nums2 := Slc.of_blk codI1 (hS.blk 2 rfl) rfl (by decide) (fun _ _ => trivial) rfl
  have s2 : Slc w' 1 encI1 (fun _ => True) (some ⟨b4, 0, none⟩) 9 nums2 := Slc.of_blk codI1 (hS.blk 3 rfl) rfl (by decide) (fun _ _ => trivial) rfl
  (conv => whnf)
  refine (sameInts1_ok s1 s2).mono ?_
  rintro v w2 ⟨rfl, hx⟩
  replace hS := (hS.no hx).keep 0
  clear hx s1 s2
  repeat' ((conv => whnf); first | refine hS.ldr (hE.at_ 1 rfl) id ?_ | refine hS.ldr (hE.at_ 2 rfl) id ?_ | refine hS.ldr (hE.at_ 3 rfl) id ?_ | refine hS.ldr (hE.at_ 4 rfl) id ?_ | refine hS.ldr (hE.at_ 5 rfl) id ?_ | refine hS.ldr (hE.at_ 6 rfl) id ?_ | refine hS.ldr (hE.at_ 7 rfl) id ?_ | refine hS.ldr (hE.at_ 8 rfl) id ?_ | refine hS.ldr (hE.at_ 9 rfl) id ?_ | refine hS.ldr (hE.at_ 10 rfl) id ?_ | refine hS.ldr (hE.at_ 11 rfl) id ?_)
  refine hS.lit (cs := allErrs.map fun k => Value.iface 98 (.pointer (some (E k)))) Tryd.underlying50 (sz := 1) (by kernel_rfl) (z := .nilIface) (by kernel_rfl) rfl rfl (by kernel_rfl) (fun be w4 hbe hS => ?_)
  (conv => whnf)
  refine loopR tabOk (fun σ w' n => ∃ j : Nat, σ = [(5, .int .i64 j), (4, .slice (some ⟨be, 0, none⟩) 11 11)] ∧ n = 11 - j ∧ j ≤ 11 ∧ St W No w' [blk be 32 (allErrs.map fun k => Value.iface 98 (.pointer (some (E k))))])
    (σ' := [(5, .int .i64 ((0 : Nat) : Int)), (4, .slice (some ⟨be, 0, none⟩) 11 11)]) (n := 11) ⟨rfl, rfl, trivial⟩ ⟨0, rfl, rfl, Nat.zero_le _, hS⟩ ?_
  clear hS
  rintro _ w1 n ⟨j, rfl, rfl, hj, hS⟩
  (conv => whnf)
  refine brD (fun h3 => ?_) (fun h3 => ?_)
  · (conv => whnf)
    refine IdxC.mk (by omega) (by omega) ?_
    (conv => whnf)
    refine hS.ld 0 rfl (elem_at E j (by omega)) ?_
    (conv => whnf)
    refine hS.new (fun bf w' hbf hS => ?_)
    (conv => whnf)
    refine (codeF_ok j (by omega) _ (hE.ext hS.ext fun _ h => h.elim) (hh.ext hS.ext) (hS.blk 1 rfl)).mono ?_
    rintro v w2 ⟨rfl, hx⟩
    replace hS := hS.no hx
    (conv => whnf)
    refine IdxC.mk (by omega) (by omega) ?_
    (conv => whnf)
    refine hS.ld 0 rfl (elem_at E j (by omega)) ?_
    (conv => whnf)
    refine RngC.mk (by omega) (by omega) ?_
    rw [show (j : Int) + 1 = ((j + 1 : Nat) : Int) by omega]
    (conv => whnf)
    refine (coded1_same (j + 1) (by omega) _ (hE.ext hS.ext fun _ h => h.elim) (hh.ext hS.ext)).mono ?_
    rintro v w2 ⟨rfl, hx⟩
    replace hS := hS.no hx
    (conv => whnf)
    refine RngC.mk (by omega) (by omega) ?_
    rw [show (j : Int) + 1 = ((j + 1 : Nat) : Int) by omega]
    (conv => whnf)
    refine brND (fun h => absurd rfl h) (fun _ => ?_)
    (conv => whnf)
    refine RngC.mk (by omega) (by omega) ?_
    (conv => whnf)
    exact LoopE.mk ⟨_, [(5, .int .i64 ((j + 1 : Nat) : Int)), (4, _)], by omega, ⟨rfl, rfl, trivial⟩, ⟨j + 1, rfl, rfl, by omega, hS.keep 1⟩⟩
  · (conv => whnf)
    refine (errNew_ok _ w1).mono ?_
    rintro v w2 ⟨b, rfl, hb, hx, hB⟩
    have hlt : ∀ k, allErrs.contains k = true → (⟨b, 0, none⟩ : Addr) ≠ E k := fun k hk e => by
      have h1 := (hE.row k hk).2
      have h2 := hS.ext.size
      rw [← e] at h1
      dsimp only at h1
      omega
    replace hS := hS.no hx
    (conv => whnf)
    refine (codeN_ok w2 (hE.ext hS.ext fun _ h => h.elim) (hh.ext hS.ext) hB hlt).mono ?_
    rintro v w3 ⟨rfl, hx⟩
    replace hS := hS.no hx
    (conv => whnf)
    refine (coded1_same 0 (by omega) _ (hE.ext hS.ext fun _ h => h.elim) (hh.ext hS.ext)).mono ?_
    rintro v w4 ⟨rfl, hx⟩
    replace hS := hS.no hx
    repeat' ((conv => whnf); first | refine RetC.mk ?_ | refine NzC.mk (by decide) ?_ | refine RngC.mk (by omega) (by omega) ?_ | refine IdxC.mk (by omega) (by omega) ?_ | refine brD (fun _ => ?_) (fun _ => ?_) | refine brND (fun _ => ?_) (fun _ => ?_) | refine brN (fun _ => ?_) (fun _ => ?_) | refine brI (fun _ => ?_) (fun _ => ?_))
    exact ⟨rfl, hS.ext⟩
theorem names_walk {E : Nat → Addr} (W : World) (args : List Value) (hE : Errs W E W.heap.size allErrs) (hh : Handle W) (ha : ArgsOk Tryd.prog W [] args) :
    CallC Tryd.prog 6 args.toArray W fun v w' => v = .bool true ∧ Ext No W w' := by
  obtain rfl := ha.nil
  exact names_ok W hE hh
end Go.Proofs.YtakdekkieobbaaaDoor
