
/-
  CellCuts returns true whatever its arguments.
-/
import Derived.Test.YteakdmngllfodaaDoorCellL
import Derived.Test.YteakdmngllfodaaDoorAs
import Derived.Test.YteakdmngllfodaaDoorEvL
namespace Go.Proofs.YteakdmngllfodaaDoor
open Go Ev

theorem Ev.St.upd2 {w0 w w' : World} {S T : Nat → Prop} {H : List Ent} {e1 e2 d1 d2 : Ent} (h : St w0 S w (e1 :: e2 :: H)) (k : Ext T w w') (hT : ∀ b, T b → b ∈ e1.foot ∨ b ∈ e2.foot) (l1 : d1.Local) (h1 : d1.holds w') (f1 : d1.foot = e1.foot) (l2 : d2.Local) (h2 : d2.holds w') (f2 : d2.foot = e2.foot) : St w0 S w' (d1 :: d2 :: H) := by
  have m1 := h.may e1 (by simp)
  have m2 := h.may e2 (by simp)
  have ap := h.apart
  rw [List.pairwise_cons, List.pairwise_cons] at ap
  obtain ⟨a1, a2, a3⟩ := ap
  refine ⟨h.ext.then k fun b hb => (hT b hb).elim (fun x => (m1 b x).1) fun x => (m2 b x).1, ?_, ?_, ?_, ?_⟩
  · intro f hf
    simp only [List.mem_cons] at hf
    rcases hf with rfl | rfl | hf
    · exact h1
    · exact h2
    · refine h.loc f (by simp [hf]) w w' (fun b hb => k.block b (h.may f (by simp [hf]) b hb).2 fun ht => ?_) (h.each f (by simp [hf]))
      rcases hT b ht with x | x
      · exact a1 f (by simp [hf]) b x hb
      · exact a2 f hf b x hb
  · intro f hf
    simp only [List.mem_cons] at hf
    rcases hf with rfl | rfl | hf
    · exact l1
    · exact l2
    · exact h.loc f (by simp [hf])
  · intro f hf b hb
    simp only [List.mem_cons] at hf
    rcases hf with rfl | rfl | hf
    · rw [f1] at hb
      exact ⟨(m1 b hb).1, Nat.lt_of_lt_of_le (m1 b hb).2 k.size⟩
    · rw [f2] at hb
      exact ⟨(m2 b hb).1, Nat.lt_of_lt_of_le (m2 b hb).2 k.size⟩
    · have := h.may f (by simp [hf]) b hb
      exact ⟨this.1, Nat.lt_of_lt_of_le this.2 k.size⟩
  · rw [List.pairwise_cons, List.pairwise_cons]
    refine ⟨fun f hf b hb => ?_, fun f hf b hb => ?_, a3⟩
    · rw [f1] at hb
      simp only [List.mem_cons] at hf
      rcases hf with rfl | hf
      · rw [f2]
        exact a1 e2 (by simp) b hb
      · exact a1 f (by simp [hf]) b hb
    · rw [f2] at hb
      exact a2 f hf b hb

/-! ### The plain law -/
theorem put_law {B : BytS} {C : CelS} {e l : Int} (hO : BOk B) (hoff : B.off = false) (hC : openS B.data = C) : BOk (C.put B e l).2.1 ∧ (C.put B e l).1 < 12 ∧
    (((C.put B e l).1 = 0 ∧ openS (C.put B e l).2.1.data = (C.put B e l).2.2 ∧ (C.put B e l).2.1.off = false ∧ (C.ep : Int) ≤ e ∧ (C.li : Int) ≤ l ∧ ((C.put B e l).2.2.ep : Int) = e ∧ ((C.put B e l).2.2.li : Int) = l) ∨
     ((C.put B e l).1 = 7 ∧ openS (C.put B e l).2.1.data = C ∧ (C.put B e l).2.1.off = true) ∨
     ((C.put B e l).1 ≠ 0 ∧ (C.put B e l).2 = (B, C))) := by
  have hd : C.dead = false := hC ▸ openS_dead _
  unfold CelS.put
  rw [if_neg (by simp [hd])]
  split
  · exact ⟨hO, by simp, .inr (.inr ⟨by simp, rfl⟩)⟩
  · rename_i h1
    split
    · exact ⟨hO, by simp, .inr (.inr ⟨by simp, rfl⟩)⟩
    · rename_i h2
      split
      · exact ⟨hO, by simp, .inr (.inr ⟨by simp, rfl⟩)⟩
      · rename_i h3
        have hcw := cwrite_law (e := e.toNat) (l := l.toNat) hO hoff (by rw [hC]; omega) (by omega) (by omega)
        rw [hC] at hcw
        have hO2 := hO.cwrite (C.num + 1) e.toNat l.toNat
        rcases hcw with ⟨a1, a2, a3⟩ | ⟨a1, a2, a3⟩
        · rw [if_pos a1]
          refine ⟨hO2, by dsimp only; omega, .inl ⟨rfl, ?_, a3, by omega, by omega, by dsimp only; omega, by dsimp only; omega⟩⟩
          dsimp only
          rw [a2, hd]
        · rw [if_neg (by simp [a1])]
          exact ⟨hO2, by dsimp only; omega, .inr (.inl ⟨rfl, a2, a3⟩)⟩

structure PutS where
  ep : Int
  li : Int
  cut : Int
  on : Bool
  off : Bool
def encP (p : PutS) : List Value := [.int .i64 p.ep, .int .i64 p.li, .int .i64 p.cut, .bool p.on, .bool p.off]
theorem codP : Codec 5 encP := ⟨fun _ => rfl, fun _ => rfl, by decide⟩
def PutS.Ok (p : PutS) : Prop := I64 p.ep ∧ I64 p.li ∧ I64 p.cut
theorem dec_put {w : World} {d : Nat} (hd : 10 ≤ d) : Dec Tryd.prog w d 83 encP PutS.Ok := by
  intro cs h
  have h1 : flatK Tryd.prog 10 83 = some [.int, .int, .int, .bool, .bool] := by kernel_rfl
  have h2 : Tryd.prog.cellsOf 83 = 5 := by kernel_rfl
  obtain ⟨ps, rfl, hk, hok⟩ := shp_flat 10 d _ _ cs h1 hd h2 h
  obtain ⟨p1, r, rfl, g1, hk⟩ := kinds_cons hk
  obtain ⟨p2, r, rfl, g2, hk⟩ := kinds_cons hk
  obtain ⟨p3, r, rfl, g3, hk⟩ := kinds_cons hk
  obtain ⟨p4, r, rfl, g4, hk⟩ := kinds_cons hk
  obtain ⟨p5, r, rfl, g5, hk⟩ := kinds_cons hk
  obtain rfl := kinds_nil hk
  obtain ⟨n1, rfl⟩ := k_int g1
  obtain ⟨n2, rfl⟩ := k_int g2
  obtain ⟨n3, rfl⟩ := k_int g3
  obtain ⟨n4, rfl⟩ := k_bool g4
  obtain ⟨n5, rfl⟩ := k_bool g5
  exact ⟨⟨n1, n2, n3, n4, n5⟩, rfl, hok (.int n1) (by simp), hok (.int n2) (by simp), hok (.int n3) (by simp)⟩

def kT : BytS × CelS := (zeroC.put by0 4 7).2
theorem kept_law : (zeroC.put by0 4 7).1 = 0 ∧ openS by0.data = zeroC ∧ kT.1.data.length = 64 ∧ kT.1.off = false ∧ (openS kT.1.data).ep = 4 ∧ (openS kT.1.data).li = 7 := by decide +kernel
theorem by0_ok : BOk by0 := ⟨by simp [by0], by decide, by decide⟩
theorem kept_ok {E : Nat → Addr} {q : Nat} (w : World) (hE : Errs w E q [2, 6, 7, 10]) (hq : q ≤ w.heap.size) : CallC Tryd.prog 43 #[] w fun v w' => v = .bool true ∧ Ext No w w' := by
  obtain ⟨k1, k2, k3, k4, k5, k6⟩ := kept_law
  refine fn_intro tabOk Tryd.func43 (by kernel_rfl) rfl Tryd.ntmps43 (Nat.le_of_ble_eq_true rfl) ?_
  have hS := St.start w No
  (conv => whnf)
  refine (newBytes_ok _).mono ?_
  rintro v w' ⟨b, rfl, hb, hx', hB⟩
  replace hS := hS.made hx' (blk_local _ _ _) hB (by simp [blk]; exact ⟨hb, hB.lt⟩)
  have fb := hS.fresh 0 rfl
  clear hx' hB hb
  (conv => whnf)
  refine (copen_ok (hS.blk 0 rfl) by0_ok.len rfl).mono ?_
  rintro v w' ⟨c, rfl, hc, hx', hB⟩
  rw [k2] at hB
  replace hS := hS.made hx' (blk_local _ _ _) hB (by simp [blk]; exact ⟨hc, hB.lt⟩)
  have fc := hS.fresh 1 rfl
  clear hx' hB hc
  (conv => whnf)
  refine (cput_ok 4 7 (hS.blk 1 rfl) (hS.blk 0 rfl) by0_ok (by decide) (hE.ext hS.ext fun _ h => h.elim) (by omega) (by omega)).mono ?_
  rintro v w' ⟨rfl, hx', hB, hC⟩
  replace hS := hS.upd2 hx' (by simp [blk]) (blk_local _ _ _) hB rfl (blk_local _ _ _) hC rfl
  clear hx' hB hC
  rw [k1]
  change St w No w' [blk b 124 (encBy kT.1), blk c 126 (encCl b kT.2)] at hS
  (conv => whnf)
  refine (copen_ok (hS.blk 0 rfl) k3 k4).mono ?_
  rintro v w' ⟨c2, rfl, hc, hx', hB⟩
  replace hS := hS.made hx' (blk_local _ _ _) hB (by simp [blk]; exact ⟨hc, hB.lt⟩)
  clear hx' hB hc
  (conv => whnf)
  refine (cepoch_ok (hS.blk 2 rfl)).mono ?_
  rintro v w' ⟨rfl, hx'⟩
  replace hS := hS.no hx'
  rw [k5]
  (conv => whnf)
  refine (clife_ok (hS.blk 2 rfl)).mono ?_
  rintro v w' ⟨rfl, hx'⟩
  replace hS := hS.no hx'
  rw [k6]
  repeat' ((conv => whnf); first | refine RetC.mk ?_ | refine NzC.mk (by decide) ?_ | refine RngC.mk (by omega) (by omega) ?_ | refine IdxC.mk (by omega) (by omega) ?_ | refine brD (fun _ => ?_) (fun _ => ?_) | refine brND (fun _ => ?_) (fun _ => ?_) | refine brN (fun _ => ?_) (fun _ => ?_) | refine brI (fun _ => ?_) (fun _ => ?_))
  exact ⟨rfl, hS.ext⟩

theorem cellCuts_ok {E : Nat → Addr} (W : World) (hE : Errs W E W.heap.size allErrs) (hh : Handle W) (a0 : Option Addr) (n0 c0 : Nat) (puts : List PutS) (hx : Slc W 5 encP PutS.Ok a0 n0 puts) :
    CallC Tryd.prog 7 #[.slice a0 n0 c0] W fun v w' => v = .bool true ∧ Ext No W w' := by
  have hm0 := hx.max
  refine fn_intro tabOk Tryd.func7 (by kernel_rfl) rfl Tryd.ntmps7 (Nat.le_of_ble_eq_true rfl) ?_
  have hS := St.start W No
  (conv => whnf)
  refine (kept_ok _ (hE.sub rfl) (Nat.le_refl _)).mono ?_
  rintro v w' ⟨rfl, hx'⟩
  replace hS := hS.no hx'
  clear hx'
  (conv => whnf)
  refine brD (fun h1 => ?_) (fun h1 => ?_)
  · repeat' ((conv => whnf); first | refine RetC.mk ?_ | refine NzC.mk (by decide) ?_ | refine RngC.mk (by omega) (by omega) ?_ | refine IdxC.mk (by omega) (by omega) ?_ | refine brD (fun _ => ?_) (fun _ => ?_) | refine brND (fun _ => ?_) (fun _ => ?_) | refine brN (fun _ => ?_) (fun _ => ?_) | refine brI (fun _ => ?_) (fun _ => ?_))
    exact ⟨rfl, hS.ext⟩
  (conv => whnf)
  refine (newBytes_ok _).mono ?_
  rintro v w' ⟨b, rfl, hb, hx', hB⟩
  replace hS := hS.made hx' (blk_local _ _ _) hB (by simp [blk]; exact ⟨hb, hB.lt⟩)
  have fb := hS.fresh 0 rfl
  clear hx' hB hb
  (conv => whnf)
  refine (copen_ok (hS.blk 0 rfl) by0_ok.len rfl).mono ?_
  rintro v w' ⟨c, rfl, hc, hx', hB⟩
  rw [kept_law.2.1] at hB
  replace hS := hS.made hx' (blk_local _ _ _) hB (by simp [blk]; exact ⟨hc, hB.lt⟩)
  have fc := hS.fresh 1 rfl
  clear hx' hB hc
  (conv => whnf)
  refine loopR tabOk (fun σ w q => ∃ (i c : Nat) (B : BytS) (C : CelS), σ = [(9, .int .i64 i), (8, .int .i64 (C.li : Int)), (7, .int .i64 (C.ep : Int)), (5, .pointer (some ⟨c, 0, none⟩)), (4, .pointer (some ⟨b, 0, none⟩)), (0, .slice a0 n0 c0)] ∧ q = n0 - i ∧ i ≤ n0 ∧ St W No w [blk b 124 (encBy B), blk c 126 (encCl b C)] ∧ BOk B ∧ B.off = false ∧ openS B.data = C ∧ W.heap.size ≤ c)
    (σ' := [(9, .int .i64 ((0 : Nat) : Int)), (8, .int .i64 ((0 : Nat) : Int)), (7, .int .i64 ((0 : Nat) : Int)), (5, .pointer (some ⟨c, 0, none⟩)), (4, .pointer (some ⟨b, 0, none⟩)), (0, .slice a0 n0 c0)]) (n := n0) ⟨rfl, rfl, rfl, rfl, rfl, rfl, trivial⟩ ⟨0, c, by0, zeroC, rfl, rfl, Nat.zero_le _, hS, by0_ok, rfl, kept_law.2.1, fc⟩ ?_
  clear hS fc
  clear c
  rintro _ w q ⟨i, c, B, C, rfl, rfl, hi, hS, hO, hoff, hC, fc⟩
  have hN : C.num < 4294967296 := hC ▸ (openN_lt B.data 2).1
  (conv => whnf)
  refine brD (fun h4 => ?_) (fun h4 => ?_)
  · obtain ⟨b0, o0, a, _, hok, rfl, hb0, hc⟩ := hx.at (k := i) (by omega)
    (conv => whnf)
    refine IdxC.mk (by omega) (by omega) ?_
    (conv => whnf)
    refine hS.lar (l := encP a) rfl hc id ?_
    (conv => whnf)
    refine hS.new (fun b10 w' hb10 hS => ?_)
    (conv => whnf)
    refine hS.st 2 rfl (Nat.le_of_ble_eq_true rfl) rfl (fun w' hS => ?_)
    replace hS : St W No w' [blk b 124 (encBy B), blk c 126 (encCl b C), blk b10 83 (encP a)] := hS
    (conv => whnf)
    refine hS.ld 2 rfl rfl ?_
    (conv => whnf)
    refine brD (fun h5 => ?_) (fun h5 => ?_)
    · (conv => whnf)
      refine hS.ld 2 rfl rfl ?_
      (conv => whnf)
      refine (bcut_ok a.cut (hS.blk 0 rfl) hO.len ((hE.sub rfl).ext hS.ext fun _ h => h.elim) fb).mono ?_
      rw [if_neg (by omega), if_neg (by simp [hoff]), if_neg (by simp [hoff]; omega)]
      rintro v w' ⟨rfl, hx', hB⟩
      replace hS := hS.upd 0 rfl hx' (fun c hc => by subst hc; exact List.mem_singleton.2 rfl) (blk_local _ _ _) hB (fun c hc => .inl hc)
      clear hx' hB
      have hO1 : BOk ⟨B.data, B.off, a.cut⟩ := ⟨hO.len, by dsimp only; omega, hok.2.2.2⟩
      (conv => whnf)
      repeat' ((conv => whnf); first | refine RetC.mk ?_ | refine NzC.mk (by decide) ?_ | refine RngC.mk (by omega) (by omega) ?_ | refine IdxC.mk (by omega) (by omega) ?_ | refine hS.ld 2 rfl rfl ?_ | refine brD (fun _ => ?_) (fun _ => ?_) | refine brND (fun _ => ?_) (fun _ => ?_) | refine brN (fun _ => ?_) (fun _ => ?_) | refine brI (fun _ => ?_) (fun _ => ?_))
      refine (cput_ok a.ep a.li (hS.blk 1 rfl) (hS.blk 0 rfl) hO1 hN ((hE.sub rfl).ext hS.ext fun _ h => h.elim) fb fc).mono ?_
      rintro v w' ⟨rfl, hx', hB, hC'⟩
      replace hS := hS.upd2 hx' (by simp [blk]) (blk_local _ _ _) hB rfl (blk_local _ _ _) hC' rfl
      clear hx' hB hC'
      have hpl := put_law (e := a.ep) (l := a.li) hO1 hoff hC
      generalize CelS.put C (⟨B.data, B.off, a.cut⟩ : BytS) a.ep a.li = R at hS hpl ⊢
      obtain ⟨code, B2, C2⟩ := R
      dsimp only at hpl hS ⊢
      obtain ⟨hO2, h12, ⟨rfl, g1, g2, g3, g4, g5, g6⟩ | ⟨rfl, g1, g2⟩ | ⟨g1, g2⟩⟩ := hpl
      · (conv => whnf)
        refine hS.ld 2 rfl rfl ?_
        (conv => whnf)
        refine brD (fun h => absurd h (by omega)) (fun _ => ?_)
        (conv => whnf)
        refine hS.ld 2 rfl rfl ?_
        (conv => whnf)
        refine brD (fun h => absurd h (by omega)) (fun _ => ?_)
        (conv => whnf)
        refine hS.ld 2 rfl rfl ?_
        (conv => whnf)
        refine hS.ld 2 rfl rfl ?_
        (conv => whnf)
        refine RngC.mk (by omega) (by omega) ?_
        (conv => whnf)
        refine LoopE.mk ⟨_, [(9, .int .i64 ((i + 1 : Nat) : Int)), (8, .int .i64 (C2.li : Int)), (7, .int .i64 (C2.ep : Int)), (5, _), (4, _), (0, _)], ?_, ⟨rfl, by rw [g6]; rfl, by rw [g5]; rfl, rfl, rfl, rfl, trivial⟩, ⟨i + 1, c, B2, C2, rfl, rfl, by omega, hS.keep 2, hO2, g2, g1, fc⟩⟩
        omega
      · (conv => whnf)
        refine (bpower_ok (hS.blk 0 rfl) hO2.len).mono ?_
        rintro v w' ⟨rfl, hx'⟩
        rw [g2]
        replace hS := hS.no hx'
        clear hx'
        (conv => whnf)
        refine (bon_ok (hS.blk 0 rfl) hO2.len).mono ?_
        rintro v w' ⟨hx', hB⟩
        replace hS := hS.upd 0 rfl hx' (fun c hc => by subst hc; exact List.mem_singleton.2 rfl) (blk_local _ _ _) hB (fun c hc => .inl hc)
        clear hx' hB
        have hO3 : BOk ⟨B2.data, false, -1⟩ := ⟨hO2.len, by dsimp only; omega, by dsimp only; omega⟩
        (conv => whnf)
        refine (copen_ok (hS.blk 0 rfl) hO3.len rfl).mono ?_
        rintro v w' ⟨c2, rfl, hc2, hx', hB⟩
        dsimp only at hB
        rw [g1] at hB
        replace hS := hS.made hx' (blk_local _ _ _) hB (by simp [blk]; exact ⟨hc2, hB.lt⟩)
        clear hx' hB hc2
        have fc2 := hS.fresh 3 rfl
        (conv => whnf)
        refine (coded2_same 7 (by decide) _ (hE.ext hS.ext fun _ h => h.elim) (hh.ext hS.ext)).mono ?_
        rintro v w' ⟨rfl, hx'⟩
        replace hS := hS.no hx'
        clear hx'
        (conv => whnf)
        refine (cepoch_ok (hS.blk 3 rfl)).mono ?_
        rintro v w' ⟨rfl, hx'⟩
        replace hS := hS.no hx'
        clear hx'
        (conv => whnf)
        refine brD (fun _ => ?_) (fun h => absurd rfl h)
        (conv => whnf)
        refine (clife_ok (hS.blk 3 rfl)).mono ?_
        rintro v w' ⟨rfl, hx'⟩
        replace hS := hS.no hx'
        clear hx'
        (conv => whnf)
        (refine drawS tabOk mixed [] (No) [0, 2, 3, 1, 4, 5, 6, 8, 9, 7, 10, 11, 12] (by kernel_rfl) ?_; rintro w1 rfl; replace hS := hS.drew)
        (conv => whnf)
        refine hS.ldF 2 rfl rfl id ?_
        (conv => whnf)
        refine (cepoch_ok (hS.blk 3 rfl)).mono ?_
        rintro v w2 ⟨rfl, hx1⟩
        have hS2 := hS.no hx1
        refine KeepC.mk hx1 ?_
        (conv => whnf)
        refine brD (fun _ => ?_) (fun _ => ?_)
        · (conv => whnf)
          refine hS.ldF 2 rfl rfl id ?_
          (conv => whnf)
          refine (clife_ok (hS2.blk 3 rfl)).mono ?_
          rintro v w3 ⟨rfl, hx2⟩
          replace hS := hS2.no hx2
          refine KeepC.mk (hx1.trans hx2) ?_
          (conv => whnf)
          rw [show (!((C.li : Int) == (C.li : Int))) = false by simp]
          (conv => whnf)
          refine (cepoch_ok (hS.blk 3 rfl)).mono ?_
          rintro v w' ⟨rfl, hx'⟩
          replace hS := hS.no hx'
          clear hx'
          (conv => whnf)
          refine (clife_ok (hS.blk 3 rfl)).mono ?_
          rintro v w' ⟨rfl, hx'⟩
          replace hS := hS.no hx'
          clear hx'
          (conv => whnf)
          refine RngC.mk (by omega) (by omega) ?_
          (conv => whnf)
          refine LoopE.mk ⟨_, [(9, .int .i64 ((i + 1 : Nat) : Int)), (8, .int .i64 (C.li : Int)), (7, .int .i64 (C.ep : Int)), (5, .pointer (some ⟨c2, 0, none⟩)), (4, _), (0, _)], ?_, ⟨rfl, rfl, rfl, rfl, rfl, rfl, trivial⟩, ⟨i + 1, c2, ⟨B2.data, false, -1⟩, C, rfl, rfl, by omega, hS.weaken (.cons_cons _ (.cons _ (.cons _ (.cons_cons _ .slnil)))), hO3, rfl, g1, fc2⟩⟩
          omega
        · (conv => whnf)
          replace hS := hS2
          rw [show (!((C.li : Int) == (C.li : Int))) = false by simp]
          (conv => whnf)
          refine (cepoch_ok (hS.blk 3 rfl)).mono ?_
          rintro v w' ⟨rfl, hx'⟩
          replace hS := hS.no hx'
          clear hx'
          (conv => whnf)
          refine (clife_ok (hS.blk 3 rfl)).mono ?_
          rintro v w' ⟨rfl, hx'⟩
          replace hS := hS.no hx'
          clear hx'
          (conv => whnf)
          refine RngC.mk (by omega) (by omega) ?_
          (conv => whnf)
          refine LoopE.mk ⟨_, [(9, .int .i64 ((i + 1 : Nat) : Int)), (8, .int .i64 (C.li : Int)), (7, .int .i64 (C.ep : Int)), (5, .pointer (some ⟨c2, 0, none⟩)), (4, _), (0, _)], ?_, ⟨rfl, rfl, rfl, rfl, rfl, rfl, trivial⟩, ⟨i + 1, c2, ⟨B2.data, false, -1⟩, C, rfl, rfl, by omega, hS.weaken (.cons_cons _ (.cons _ (.cons _ (.cons_cons _ .slnil)))), hO3, rfl, g1, fc2⟩⟩
          omega
      · obtain ⟨e1, e2⟩ : B2 = (⟨B.data, B.off, a.cut⟩ : BytS) ∧ C2 = C := by simpa using g2
        rw [e1, e2] at hS
        rw [e1] at hO2
        obtain ⟨j, rfl⟩ : ∃ j, code = j + 1 := ⟨code - 1, by omega⟩
        (conv => whnf)
        refine (bpower_ok (hS.blk 0 rfl) hO2.len).mono ?_
        rintro v w' ⟨rfl, hx'⟩
        rw [hoff]
        replace hS := hS.no hx'
        clear hx'
        (conv => whnf)
        refine RngC.mk (by omega) (by omega) ?_
        (conv => whnf)
        refine LoopE.mk ⟨_, [(9, .int .i64 ((i + 1 : Nat) : Int)), (8, _), (7, _), (5, _), (4, _), (0, _)], ?_, ⟨rfl, rfl, rfl, rfl, rfl, rfl, trivial⟩, ⟨i + 1, c, _, _, rfl, rfl, by omega, hS.keep 2, hO2, hoff, hC, fc⟩⟩
        omega
    · skip
      repeat' ((conv => whnf); first | refine RetC.mk ?_ | refine NzC.mk (by decide) ?_ | refine RngC.mk (by omega) (by omega) ?_ | refine IdxC.mk (by omega) (by omega) ?_ | refine hS.ld 2 rfl rfl ?_ | refine brD (fun _ => ?_) (fun _ => ?_) | refine brND (fun _ => ?_) (fun _ => ?_) | refine brN (fun _ => ?_) (fun _ => ?_) | refine brI (fun _ => ?_) (fun _ => ?_))
      refine (cput_ok a.ep a.li (hS.blk 1 rfl) (hS.blk 0 rfl) hO hN ((hE.sub rfl).ext hS.ext fun _ h => h.elim) fb fc).mono ?_
      rintro v w' ⟨rfl, hx', hB, hC'⟩
      replace hS := hS.upd2 hx' (by simp [blk]) (blk_local _ _ _) hB rfl (blk_local _ _ _) hC' rfl
      clear hx' hB hC'
      have hpl := put_law (e := a.ep) (l := a.li) hO hoff hC
      generalize CelS.put C B a.ep a.li = R at hS hpl ⊢
      obtain ⟨code, B2, C2⟩ := R
      dsimp only at hpl hS ⊢
      obtain ⟨hO2, h12, ⟨rfl, g1, g2, g3, g4, g5, g6⟩ | ⟨rfl, g1, g2⟩ | ⟨g1, g2⟩⟩ := hpl
      · (conv => whnf)
        refine hS.ld 2 rfl rfl ?_
        (conv => whnf)
        refine brD (fun h => absurd h (by omega)) (fun _ => ?_)
        (conv => whnf)
        refine hS.ld 2 rfl rfl ?_
        (conv => whnf)
        refine brD (fun h => absurd h (by omega)) (fun _ => ?_)
        (conv => whnf)
        refine hS.ld 2 rfl rfl ?_
        (conv => whnf)
        refine hS.ld 2 rfl rfl ?_
        (conv => whnf)
        refine RngC.mk (by omega) (by omega) ?_
        (conv => whnf)
        refine LoopE.mk ⟨_, [(9, .int .i64 ((i + 1 : Nat) : Int)), (8, .int .i64 (C2.li : Int)), (7, .int .i64 (C2.ep : Int)), (5, _), (4, _), (0, _)], ?_, ⟨rfl, by rw [g6]; rfl, by rw [g5]; rfl, rfl, rfl, rfl, trivial⟩, ⟨i + 1, c, B2, C2, rfl, rfl, by omega, hS.keep 2, hO2, g2, g1, fc⟩⟩
        omega
      · (conv => whnf)
        refine (bpower_ok (hS.blk 0 rfl) hO2.len).mono ?_
        rintro v w' ⟨rfl, hx'⟩
        rw [g2]
        replace hS := hS.no hx'
        clear hx'
        (conv => whnf)
        refine (bon_ok (hS.blk 0 rfl) hO2.len).mono ?_
        rintro v w' ⟨hx', hB⟩
        replace hS := hS.upd 0 rfl hx' (fun c hc => by subst hc; exact List.mem_singleton.2 rfl) (blk_local _ _ _) hB (fun c hc => .inl hc)
        clear hx' hB
        have hO3 : BOk ⟨B2.data, false, -1⟩ := ⟨hO2.len, by dsimp only; omega, by dsimp only; omega⟩
        (conv => whnf)
        refine (copen_ok (hS.blk 0 rfl) hO3.len rfl).mono ?_
        rintro v w' ⟨c2, rfl, hc2, hx', hB⟩
        dsimp only at hB
        rw [g1] at hB
        replace hS := hS.made hx' (blk_local _ _ _) hB (by simp [blk]; exact ⟨hc2, hB.lt⟩)
        clear hx' hB hc2
        have fc2 := hS.fresh 3 rfl
        (conv => whnf)
        refine (coded2_same 7 (by decide) _ (hE.ext hS.ext fun _ h => h.elim) (hh.ext hS.ext)).mono ?_
        rintro v w' ⟨rfl, hx'⟩
        replace hS := hS.no hx'
        clear hx'
        (conv => whnf)
        refine (cepoch_ok (hS.blk 3 rfl)).mono ?_
        rintro v w' ⟨rfl, hx'⟩
        replace hS := hS.no hx'
        clear hx'
        (conv => whnf)
        refine brD (fun _ => ?_) (fun h => absurd rfl h)
        (conv => whnf)
        refine (clife_ok (hS.blk 3 rfl)).mono ?_
        rintro v w' ⟨rfl, hx'⟩
        replace hS := hS.no hx'
        clear hx'
        (conv => whnf)
        (refine drawS tabOk mixed [] (No) [0, 2, 3, 1, 4, 5, 6, 8, 9, 7, 10, 11, 12] (by kernel_rfl) ?_; rintro w1 rfl; replace hS := hS.drew)
        (conv => whnf)
        refine hS.ldF 2 rfl rfl id ?_
        (conv => whnf)
        refine (cepoch_ok (hS.blk 3 rfl)).mono ?_
        rintro v w2 ⟨rfl, hx1⟩
        have hS2 := hS.no hx1
        refine KeepC.mk hx1 ?_
        (conv => whnf)
        refine brD (fun _ => ?_) (fun _ => ?_)
        · (conv => whnf)
          refine hS.ldF 2 rfl rfl id ?_
          (conv => whnf)
          refine (clife_ok (hS2.blk 3 rfl)).mono ?_
          rintro v w3 ⟨rfl, hx2⟩
          replace hS := hS2.no hx2
          refine KeepC.mk (hx1.trans hx2) ?_
          (conv => whnf)
          rw [show (!((C.li : Int) == (C.li : Int))) = false by simp]
          (conv => whnf)
          refine (cepoch_ok (hS.blk 3 rfl)).mono ?_
          rintro v w' ⟨rfl, hx'⟩
          replace hS := hS.no hx'
          clear hx'
          (conv => whnf)
          refine (clife_ok (hS.blk 3 rfl)).mono ?_
          rintro v w' ⟨rfl, hx'⟩
          replace hS := hS.no hx'
          clear hx'
          (conv => whnf)
          refine RngC.mk (by omega) (by omega) ?_
          (conv => whnf)
          refine LoopE.mk ⟨_, [(9, .int .i64 ((i + 1 : Nat) : Int)), (8, .int .i64 (C.li : Int)), (7, .int .i64 (C.ep : Int)), (5, .pointer (some ⟨c2, 0, none⟩)), (4, _), (0, _)], ?_, ⟨rfl, rfl, rfl, rfl, rfl, rfl, trivial⟩, ⟨i + 1, c2, ⟨B2.data, false, -1⟩, C, rfl, rfl, by omega, hS.weaken (.cons_cons _ (.cons _ (.cons _ (.cons_cons _ .slnil)))), hO3, rfl, g1, fc2⟩⟩
          omega
        · (conv => whnf)
          replace hS := hS2
          rw [show (!((C.li : Int) == (C.li : Int))) = false by simp]
          (conv => whnf)
          refine (cepoch_ok (hS.blk 3 rfl)).mono ?_
          rintro v w' ⟨rfl, hx'⟩
          replace hS := hS.no hx'
          clear hx'
          (conv => whnf)
          refine (clife_ok (hS.blk 3 rfl)).mono ?_
          rintro v w' ⟨rfl, hx'⟩
          replace hS := hS.no hx'
          clear hx'
          (conv => whnf)
          refine RngC.mk (by omega) (by omega) ?_
          (conv => whnf)
          refine LoopE.mk ⟨_, [(9, .int .i64 ((i + 1 : Nat) : Int)), (8, .int .i64 (C.li : Int)), (7, .int .i64 (C.ep : Int)), (5, .pointer (some ⟨c2, 0, none⟩)), (4, _), (0, _)], ?_, ⟨rfl, rfl, rfl, rfl, rfl, rfl, trivial⟩, ⟨i + 1, c2, ⟨B2.data, false, -1⟩, C, rfl, rfl, by omega, hS.weaken (.cons_cons _ (.cons _ (.cons _ (.cons_cons _ .slnil)))), hO3, rfl, g1, fc2⟩⟩
          omega
      · obtain ⟨e1, e2⟩ : B2 = B ∧ C2 = C := by simpa using g2
        rw [e1, e2] at hS
        rw [e1] at hO2
        obtain ⟨j, rfl⟩ : ∃ j, code = j + 1 := ⟨code - 1, by omega⟩
        (conv => whnf)
        refine (bpower_ok (hS.blk 0 rfl) hO2.len).mono ?_
        rintro v w' ⟨rfl, hx'⟩
        rw [hoff]
        replace hS := hS.no hx'
        clear hx'
        (conv => whnf)
        refine RngC.mk (by omega) (by omega) ?_
        (conv => whnf)
        refine LoopE.mk ⟨_, [(9, .int .i64 ((i + 1 : Nat) : Int)), (8, _), (7, _), (5, _), (4, _), (0, _)], ?_, ⟨rfl, rfl, rfl, rfl, rfl, rfl, trivial⟩, ⟨i + 1, c, _, _, rfl, rfl, by omega, hS.keep 2, hO2, hoff, hC, fc⟩⟩
        omega
  · repeat' ((conv => whnf); first | refine RetC.mk ?_ | refine NzC.mk (by decide) ?_ | refine RngC.mk (by omega) (by omega) ?_ | refine IdxC.mk (by omega) (by omega) ?_ | refine brD (fun _ => ?_) (fun _ => ?_) | refine brND (fun _ => ?_) (fun _ => ?_) | refine brN (fun _ => ?_) (fun _ => ?_) | refine brI (fun _ => ?_) (fun _ => ?_))
    exact ⟨rfl, hS.ext⟩

theorem cellCuts_walk {E : Nat → Addr} (W : World) (args : List Value) (hE : Errs W E W.heap.size allErrs) (hh : Handle W) (ha : ArgsOk Tryd.prog W [76] args) :
    CallC Tryd.prog 7 args.toArray W fun v w' => v = .bool true ∧ Ext No W w' := by
  obtain ⟨v0, args, rfl, h0, ha⟩ := ha.cons
  obtain rfl := ha.nil
  obtain ⟨d, hd⟩ : ∃ d, 10 ≤ d := ⟨10, Nat.le_refl _⟩
  obtain ⟨a0, n0, c0, xs, rfl, hx, _⟩ := arg_slice (d := d) (sz := 5) Tryd.underlying76 (by kernel_rfl) (by decide) (dec_put hd) h0
  exact cellCuts_ok W hE hh a0 n0 c0 xs hx
end Go.Proofs.YteakdmngllfodaaDoor
