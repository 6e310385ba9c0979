/-
  Texts of this claim, joined: PoolT, GapB, GapC, GapD, EvA.
-/
import Derived.Test.YtgcbcagaibecbaaGreatDoorSideReadsB
import Derived.Conc.Events
import Derived.Conc.Own4
import Derived.Conc.Own5
import Derived.Tactics
import Derived.Orders
import Derived.OrdersHeld
import Derived.KernelRfl
import Derived.Laws.Sem
set_option linter.unusedSectionVars false
set_option linter.unusedSimpArgs false
set_option linter.unusedVariables false

namespace Go.Proofs.YtgcbcagaibecbaaGreatDoor.Pool
set_option maxRecDepth 20000
open Go Go.Conc Gap Go.RowKit Go.Conc.Lib Go.ConcR.Gen Go.ConcN.Gen
open Go.ConcN (upd upd_same upd_ne WgLive st_flag st_waiters)
open Go.ConcR (WgAt stA smA KK Payload DC0 mk rd wr)

section
variable [Payload] {X : Shop} {L : WgLink}
theorem rl_live {w w1 : World} (h : WgLive X.ty X.Wg w) (r : RL X w w1) : WgLive X.ty X.Wg w1 := r h
def AnchG (L : WgLink) (X : Shop) (c : Frame) (cs : List Frame) (g : Goroutine) (w : World) : Prop :=
  ∃ T : Array Value, g = G ((base L.wait).at ⟨T, []⟩ [.code (L7 L), .inLoop (L7 L), .inBlock 0]) (c :: cs) ∧ T.size = 84 ∧ T[0]? = some (.pointer (some ⟨X.Wg, 0, none⟩)) ∧ WgLive X.ty X.Wg w
def FinG (P : Program) (Aft : Goroutine) (g : Goroutine) : Prop := ∀ w, ∃ m, Goes P true AtRel DC0 (fun g' _ => g' = Aft) m g w
theorem tr_rely {w w1 : World} (h : True) (_ : AtRel w w1) : True := h
variable {b₀ : Frame} {a₀ : Act} {ops₀ : Array Oper} {i₀ : Nat} {rest₀ : List Nat} {k₀ : List Item} {cs : List Frame}
set_option maxRecDepth 100000 in
set_option maxHeartbeats 8000000 in
theorem waitRound (H : WgLib X.P L) (g : Goroutine) (w : World) (h : AnchG L X (b₀.at a₀ (.inRegion ops₀ (i₀ :: rest₀) :: k₀)) cs g w) :
    ∃ m, Goes X.P true (RL X) DC0 (S1 X (AnchG L X (b₀.at a₀ (.inRegion ops₀ (i₀ :: rest₀) :: k₀)) cs) (FinG X.P (G (b₀.at (a₀.put ((ops₀[i₀]?).bind (·.dst)) (.tuple #[])) (.inRegion ops₀ rest₀ :: k₀)) cs))) m g w := by
  lib_facts
  obtain ⟨T, rfl, hT84, t0, hF⟩ := h
  obtain ⟨v0, v1, v2, v3, v4, v5, v6, v7, v8, v9, v10, v11, v12, v13, v14, v15, v16, v17, v18, v19, v20, v21, v22, v23, v24, v25, v26, v27, v28, v29, v30, v31, v32, v33, v34, v35, v36, v37, v38, v39, v40, v41, v42, v43, v44, v45, v46, v47, v48, v49, v50, v51, v52, v53, v54, v55, v56, v57, v58, v59, v60, v61, v62, v63, v64, v65, v66, v67, v68, v69, v70, v71, v72, v73, v74, v75, v76, v77, v78, v79, v80, v81, v82, v83, rfl⟩ := array84 T hT84
  simp only [List.getElem?_toArray, List.getElem?_cons_zero, Option.some.injEq] at t0
  subst t0
  refine ⟨30, ?_⟩
  simp only [L7, body_wait, waitFn, Option.getD_some]
  u_c stepG_block rl_live hF
  u_c stepG_seq rl_live hF
  u_reg rl_live hF
  u_op rl_live hF
  u_op rl_live hF
  u_op rl_live hF
  u_call H.f_uLoad (nm_uLoad L) uLoadFn rl_live hF
  u_c stepG_seq rl_live hF
  u_reg rl_live hF
  u_op rl_live hF
  u_c stepG_region_end rl_live hF
  u_c stepG_seq rl_live hF
  u_reg rl_live hF
  u_op rl_live hF
  u_op rl_live hF
  u_op rl_live hF
  refine Goes.stop (fun w₁ h₁ => ?_)
  replace hF := rl_live hF h₁
  clear h₁
  refine ⟨rfl, fun v hv hw => ?_⟩
  rcases Nat.eq_zero_or_pos v with rfl | hvp
  · replace hw : WgAt X.ty X.Wg w₁ 0 0 := by simpa using hw
    refine ⟨_, stepG_load_atomic (v := 0) rfl rfl (by k_ne) rfl H.f_loadU64 (x_loadU64_n L) (x_loadU64_b L) (x_loadU64_x L) .u64 (x_loadU64_f L) rfl hw.cellSt, fun _ => ⟨50, ?_⟩, fun h => absurd rfl h⟩
    clear hw
    walk_nrm
    u_op rl_live hF
    u_c stepG_region_end rl_live hF
    u_c stepG_ret' rl_live hF
    u_leave1 H.f_uLoad rl_live hF
    u_op rl_live hF
    u_c stepG_region_end rl_live hF
    u_c stepG_seq rl_live hF
    u_reg rl_live hF
    u_op rl_live hF
    u_op rl_live hF
    u_op rl_live hF
    u_op rl_live hF
    u_c stepG_region_end rl_live hF
    u_c stepG_seq rl_live hF
    u_reg rl_live hF
    u_op rl_live hF
    u_op rl_live hF
    u_op rl_live hF
    u_op rl_live hF
    u_c stepG_region_end rl_live hF
    u_c stepG_seq rl_live hF
    u_c stepG_seq rl_live hF
    u_reg rl_live hF
    u_op rl_live hF
    u_op rl_live hF
    u_c stepG_region_end rl_live hF
    u_cond true rl_live hF
    u_c stepG_seq rl_live hF
    u_cond true rl_live hF
    u_c stepG_seq rl_live hF
    u_reg rl_live hF
    refine Goes.stop (fun w₅ h₁ => ?_)
    replace hF := rl_live hF h₁
    clear h₁
    refine ⟨rfl, _, stepG_mark0 .enable (by simp) rfl rfl (by k_ne) rfl H.f_enable (x_enable_n L) (x_enable_b L) (x_enable_x L) (x_enable_f L), 12, ?_⟩
    walk_nrm
    u_c stepG_region_end rl_live hF
    u_reg rl_live hF
    u_op rl_live hF
    u_in (rl_live) hF
    refine goes_oper_k rfl rfl (by k_ne) (fun Kx hKx => ?_)
    have hcv := run_convert_to_unsafe (P := X.P) H.underlying_tWgP H.underlying_tUP H.room_tWg (WgLive.cell0 hF).choose_spec
    have hce := fun es => events_convert_to_unsafe (P := X.P) H.underlying_tWgP H.underlying_tUP H.room_tWg (WgLive.cell0 hF).choose_spec es
    go_simp
    refine hKx _ _ ⟨?_, ?_⟩
    · u_none
      intro ex hex
      have hmx := mem_listed hex
      simp [go_sem, hce] at hmx
    clear hKx Kx hcv hce
    refine Goes.stop (fun w₆ h₁ => ?_)
    replace hF := rl_live hF h₁
    clear h₁
    refine ⟨rfl, _, stepG_markAt .acquire (by simp) rfl rfl (by k_ne) rfl H.f_acquire (x_acquire_n L) (x_acquire_b L) (x_acquire_x L) (x_acquire_f L) (by simp [Act.eval, stA]), fun w => ⟨40, ?_⟩⟩
    clear hF
    have hF : True := trivial
    walk_nrm
    u_c stepG_region_end tr_rely hF
    u_c stepG_seq tr_rely hF
    u_c stepG_seq tr_rely hF
    u_reg tr_rely hF
    u_op tr_rely hF
    u_op tr_rely hF
    u_op tr_rely hF
    u_op tr_rely hF
    u_op tr_rely hF
    u_op tr_rely hF
    u_op tr_rely hF
    u_op tr_rely hF
    u_skip tr_rely hF
    u_skip tr_rely hF
    u_op tr_rely hF
    u_c stepG_region_end tr_rely hF
    u_cond false tr_rely hF
    u_c stepG_skip tr_rely hF
    u_c stepG_ret' tr_rely hF
    u_leave0 H.f_wait tr_rely hF
    exact Goes.stop fun _ _ => rfl
  · obtain ⟨S, hS⟩ : ∃ S : Int, (v : Int) * KK = S := ⟨_, rfl⟩
    have a1 : S / 4294967296 = (v : Int) := by rw [← hS]; simp only [KK]; omega
    have b1 : bits .and .u64 S 2147483648 = 0 := by rw [← hS]; have := st_flag v 0 (by omega) (by omega); simpa [KK] using this
    have b2 : bits .and .u64 S 2147483647 = 0 := by rw [← hS]; have := st_waiters v 0 (by omega) (by omega); simpa [KK] using this
    have c1 : IntKind.i32.wrap (v : Int) = (v : Int) := by rw [IntKind.wrap_i32]; omega
    have w1 : IntKind.u64.wrap (S + 1) = S + 1 := by rw [IntKind.wrap_u64, ← hS]; simp only [KK]; omega
    have q3 : decide ((v : Int) < 0) = false := decide_eq_false (by omega)
    have q4 : decide (0 < (v : Int)) = true := decide_eq_true (by omega)
    have q5 : ((v : Int) == 0) = false := by simp; omega
    have q6 : decide ((v : Int) = 0) = false := decide_eq_false (by omega)
    rw [hS] at hw
    refine ⟨_, stepG_load_atomic (v := S) rfl rfl (by k_ne) rfl H.f_loadU64 (x_loadU64_n L) (x_loadU64_b L) (x_loadU64_x L) .u64 (x_loadU64_f L) rfl hw.cellSt, fun h0 => absurd h0 (by omega), fun _ => ⟨60, ?_⟩⟩
    clear hw
    walk_nrm
    u_op rl_live hF
    u_c stepG_region_end rl_live hF
    u_c stepG_ret' rl_live hF
    u_leave1 H.f_uLoad rl_live hF
    u_op rl_live hF
    u_c stepG_region_end rl_live hF
    u_c stepG_seq rl_live hF
    u_reg rl_live hF
    u_op rl_live hF
    u_op rl_live hF
    u_op rl_live hF
    u_op rl_live hF
    u_c stepG_region_end rl_live hF
    u_c stepG_seq rl_live hF
    u_reg rl_live hF
    u_op rl_live hF
    u_op rl_live hF
    u_op rl_live hF
    u_op rl_live hF
    u_c stepG_region_end rl_live hF
    u_c stepG_seq rl_live hF
    u_c stepG_seq rl_live hF
    u_reg rl_live hF
    u_op rl_live hF
    u_op rl_live hF
    u_c stepG_region_end rl_live hF
    u_cnd false rl_live hF
    u_c stepG_skip rl_live hF
    u_c stepG_seq rl_live hF
    u_reg rl_live hF
    u_op rl_live hF
    u_op rl_live hF
    u_op rl_live hF
    u_op rl_live hF
    u_op rl_live hF
    u_op rl_live hF
    u_call H.f_uCas (nm_uCas L) uCasFn rl_live hF
    u_c stepG_seq rl_live hF
    u_reg rl_live hF
    u_op rl_live hF
    u_c stepG_region_end rl_live hF
    u_c stepG_seq rl_live hF
    u_reg rl_live hF
    u_op rl_live hF
    u_op rl_live hF
    u_op rl_live hF
    u_op rl_live hF
    u_op rl_live hF
    refine Goes.stop (fun w₂ h₁ => ?_)
    replace hF := rl_live hF h₁
    clear h₁
    refine ⟨rfl, fun v' hv' hw => ⟨fun e => ?_, fun e => ?_⟩⟩
    · subst e
      rw [hS] at hw ⊢
      refine ⟨_, (stepG_cas_hit (v := S) (n := S + 1) rfl rfl (by k_ne) rfl H.f_casU64 (x_casU64_n L) (x_casU64_b L) (x_casU64_x L) .u64 (x_casU64_f L) rfl rfl rfl hw.cellSt (hw.thaw 0)).trans (by rfl), 70, ?_⟩
      replace hF : WgLive X.ty X.Wg (w₂.setCell (stA X.Wg) (.int .u64 (S + 1))) := ⟨_, _, hw.setSt _⟩
      clear hw
      walk_nrm
      u_op rl_live hF
      u_c stepG_region_end rl_live hF
      u_c stepG_ret' rl_live hF
      u_leave1 H.f_uCas rl_live hF
      u_c stepG_region_end rl_live hF
      u_cond true rl_live hF
      u_c stepG_seq rl_live hF
      u_c stepG_seq rl_live hF
      u_reg rl_live hF
      u_op rl_live hF
      u_op rl_live hF
      u_op rl_live hF
      u_op rl_live hF
      u_c stepG_region_end rl_live hF
      u_cond true rl_live hF
      u_reg rl_live hF
      u_op rl_live hF
      u_op rl_live hF
      u_op rl_live hF
      u_in (rl_live) hF
      refine goes_oper_k rfl rfl (by k_ne) (fun Kx hKx => ?_)
      have hcv := run_convert_to_unsafe (P := X.P) H.underlying_tPU32 H.underlying_tUP H.room_tU32 (WgLive.cell1 hF).choose_spec
      have hce := fun es => events_convert_to_unsafe (P := X.P) H.underlying_tPU32 H.underlying_tUP H.room_tU32 (WgLive.cell1 hF).choose_spec es
      go_simp
      refine hKx _ _ ⟨?_, ?_⟩
      · u_none
        intro ex hex
        have hmx := mem_listed hex
        simp [go_sem, hce] at hmx
      clear hKx Kx hcv hce
      refine Goes.stop (fun w₇ h₁ => ?_)
      replace hF := rl_live hF h₁
      clear h₁
      refine ⟨rfl, _, stepG_markAt .write (by simp) rfl rfl (by k_ne) rfl H.f_raceWrite (x_raceWrite_n L) (x_raceWrite_b L) (x_raceWrite_x L) (x_raceWrite_f L) (ad := ⟨X.Wg, 1, none⟩) (by simp [Act.eval]), 60, ?_⟩
      walk_nrm
      u_c stepG_region_end rl_live hF
      u_c stepG_seq rl_live hF
      u_reg rl_live hF
      u_op rl_live hF
      u_c stepG_region_end rl_live hF
      u_c stepG_seq rl_live hF
      u_c stepG_seq rl_live hF
      u_reg rl_live hF
      u_op rl_live hF
      u_op rl_live hF
      u_op rl_live hF
      u_op rl_live hF
      u_skip rl_live hF
      u_op rl_live hF
      u_c stepG_region_end rl_live hF
      u_cond false rl_live hF
      u_c stepG_skip rl_live hF
      u_c stepG_seq rl_live hF
      u_reg rl_live hF
      u_op rl_live hF
      u_op rl_live hF
      u_op rl_live hF
      u_op rl_live hF
      refine Goes.stop (fun w₃ h₁ => ?_)
      replace hF := rl_live hF h₁
      clear h₁
      refine ⟨rfl, rfl, fun ⟨st, hw⟩ => stepG_semacquire_wait rfl rfl rfl H.f_semacquire (x_semacquire_n L) (x_semacquire_b L) (x_semacquire_x L) (x_semacquire_f L) (by simp [Act.eval, smA]) hw.cellSm, fun hf => ?_⟩
      refine ⟨_, (stepG_semacquire (n := 1) rfl rfl (by k_ne) rfl H.f_semacquire (x_semacquire_n L) (x_semacquire_b L) (x_semacquire_x L) (x_semacquire_f L) (by simp [Act.eval, smA]) hf.cellSm (by k_ne) (hf.thaw 1)).trans (by rfl), 30, ?_⟩
      replace hF : WgLive X.ty X.Wg (w₃.setCell (smA X.Wg) (.int .u32 0)) := ⟨_, _, hf.setSm 0⟩
      clear hf
      walk_nrm
      u_c stepG_region_end rl_live hF
      u_c stepG_seq rl_live hF
      u_reg rl_live hF
      u_op rl_live hF
      u_op rl_live hF
      u_op rl_live hF
      u_call H.f_uLoad (nm_uLoad L) uLoadFn rl_live hF
      u_c stepG_seq rl_live hF
      u_reg rl_live hF
      u_op rl_live hF
      u_c stepG_region_end rl_live hF
      u_c stepG_seq rl_live hF
      u_reg rl_live hF
      u_op rl_live hF
      u_op rl_live hF
      u_op rl_live hF
      refine Goes.stop (fun w₄ h₁ => ?_)
      replace hF := rl_live hF h₁
      clear h₁
      refine ⟨rfl, fun hw => ⟨_, stepG_load_atomic (v := 0) rfl rfl (by k_ne) rfl H.f_loadU64 (x_loadU64_n L) (x_loadU64_b L) (x_loadU64_x L) .u64 (x_loadU64_f L) rfl hw.cellSt, 30, ?_⟩⟩
      clear hw
      walk_nrm
      u_op rl_live hF
      u_c stepG_region_end rl_live hF
      u_c stepG_ret' rl_live hF
      u_leave1 H.f_uLoad rl_live hF
      u_op rl_live hF
      u_op rl_live hF
      u_c stepG_region_end rl_live hF
      u_c stepG_seq rl_live hF
      u_cond true rl_live hF
      u_c stepG_seq rl_live hF
      u_reg rl_live hF
      refine Goes.stop (fun w₅ h₁ => ?_)
      replace hF := rl_live hF h₁
      clear h₁
      refine ⟨rfl, _, stepG_mark0 .enable (by simp) rfl rfl (by k_ne) rfl H.f_enable (x_enable_n L) (x_enable_b L) (x_enable_x L) (x_enable_f L), 12, ?_⟩
      walk_nrm
      u_c stepG_region_end rl_live hF
      u_reg rl_live hF
      u_op rl_live hF
      u_in (rl_live) hF
      refine goes_oper_k rfl rfl (by k_ne) (fun Kx hKx => ?_)
      have hcv := run_convert_to_unsafe (P := X.P) H.underlying_tWgP H.underlying_tUP H.room_tWg (WgLive.cell0 hF).choose_spec
      have hce := fun es => events_convert_to_unsafe (P := X.P) H.underlying_tWgP H.underlying_tUP H.room_tWg (WgLive.cell0 hF).choose_spec es
      go_simp
      refine hKx _ _ ⟨?_, ?_⟩
      · u_none
        intro ex hex
        have hmx := mem_listed hex
        simp [go_sem, hce] at hmx
      clear hKx Kx hcv hce
      refine Goes.stop (fun w₆ h₁ => ?_)
      replace hF := rl_live hF h₁
      clear h₁
      refine ⟨rfl, _, stepG_markAt .acquire (by simp) rfl rfl (by k_ne) rfl H.f_acquire (x_acquire_n L) (x_acquire_b L) (x_acquire_x L) (x_acquire_f L) (by simp [Act.eval, stA]), fun w => ⟨40, ?_⟩⟩
      clear hF
      have hF : True := trivial
      walk_nrm
      u_c stepG_region_end tr_rely hF
      u_c stepG_seq tr_rely hF
      u_c stepG_seq tr_rely hF
      u_reg tr_rely hF
      u_op tr_rely hF
      u_c stepG_region_end tr_rely hF
      u_cond false tr_rely hF
      u_c stepG_skip tr_rely hF
      u_c stepG_ret' tr_rely hF
      u_leave0 H.f_wait tr_rely hF
      exact Goes.stop fun _ _ => rfl
    · refine ⟨_, stepG_cas_miss (v := (v' : Int) * KK) (old := S) (n := S + 1) rfl rfl (by k_ne) rfl H.f_casU64 (x_casU64_n L) (x_casU64_b L) (x_casU64_x L) .u64 (x_casU64_f L) rfl rfl rfl hw.cellSt (hw.thaw 0) (by rw [← hS]; simp only [KK]; omega), 20, ?_⟩
      clear hw
      walk_nrm
      u_op rl_live hF
      u_c stepG_region_end rl_live hF
      u_c stepG_ret' rl_live hF
      u_leave1 H.f_uCas rl_live hF
      u_c stepG_region_end rl_live hF
      u_cond false rl_live hF
      u_c stepG_skip rl_live hF
      u_c stepG_inBlock rl_live hF
      u_c stepG_inLoop rl_live hF
      refine Goes.stop (fun w₃ h₁ => ?_)
      replace hF := rl_live hF h₁
      clear h₁
      exact ⟨_, rfl, by simp, by simp, hF⟩
theorem waitStart (H : WgLib X.P L) (w : World) (hF : WgLive X.ty X.Wg w) :
    Goes X.P true (RL X) DC0 (SKd X (AnchG L X (b₀.at a₀ (.inRegion ops₀ (i₀ :: rest₀) :: k₀)) cs)) 3 (G (Frame.enter X.P L.wait #[.pointer (some ⟨X.Wg, 0, none⟩)] .normal) (b₀.at a₀ (.inRegion ops₀ (i₀ :: rest₀) :: k₀) :: cs)) w := by
  lib_facts
  rw [enter_at (c := body_wait L) _ H.f_wait rfl]
  simp only [body_wait, waitFn, Option.getD_some]
  walk_nrm
  u_c stepG_seq rl_live hF
  u_cond true rl_live hF
  u_reg rl_live hF
  refine Goes.stop (fun w₁ h₁ => ?_)
  replace hF := rl_live hF h₁
  clear h₁
  refine ⟨rfl, _, stepG_mark0 .disable (by simp) rfl rfl (by k_ne) rfl H.f_disable (x_disable_n L) (x_disable_b L) (x_disable_x L) (x_disable_f L), 3, ?_⟩
  walk_nrm
  u_c stepG_region_end rl_live hF
  u_c stepG_block rl_live hF
  u_c stepG_loop rl_live hF
  exact Goes.stop (fun w₂ h₂ => ⟨_, rfl, by simp, by simp, rl_live hF h₂⟩)
end
end Go.Proofs.YtgcbcagaibecbaaGreatDoor.Pool

namespace Go.Proofs.YtgcbcagaibecbaaGreatDoor.Gap
set_option maxRecDepth 20000
open Go Go.Conc

def Doomed {α : Type} : Sem α → Prop
  | .pure _ => False
  | .load _ _ k => ∀ v, Doomed (k v)
  | .store _ _ _ k => Doomed k
  | .new _ k => ∀ r, Doomed (k r)
  | .shape _ k => ∀ s, Doomed (k s)
  | .freeze _ _ k => Doomed k
  | .frozen _ k => ∀ b, Doomed (k b)
  | .getObj _ k => ∀ o, Doomed (k o)
  | .setObj _ _ k => Doomed k
  | .choose _ k => ∀ n, Doomed (k n)
  | .sys _ k => ∀ r, Doomed (k r)
  | .program k => ∀ p, Doomed (k p)
  | .mark _ k => Doomed k
  | .halt _ => True
theorem Doomed.bind {α β : Type} : ∀ {s : Sem α} {f : α → Sem β}, Doomed s ∨ (∀ a, Doomed (f a)) → Doomed (s.bind f)
  | .pure a, f, h => h.elim False.elim fun h => h a
  | .load _ _ k, f, h => fun v => Doomed.bind (h.imp (fun h => h v) id)
  | .store _ _ _ k, f, h => Doomed.bind (s := k) h
  | .new _ k, f, h => fun v => Doomed.bind (h.imp (fun h => h v) id)
  | .shape _ k, f, h => fun v => Doomed.bind (h.imp (fun h => h v) id)
  | .freeze _ _ k, f, h => Doomed.bind (s := k) h
  | .frozen _ k, f, h => fun v => Doomed.bind (h.imp (fun h => h v) id)
  | .getObj _ k, f, h => fun v => Doomed.bind (h.imp (fun h => h v) id)
  | .setObj _ _ k, f, h => Doomed.bind (s := k) h
  | .choose _ k, f, h => fun v => Doomed.bind (h.imp (fun h => h v) id)
  | .sys _ k, f, h => fun v => Doomed.bind (h.imp (fun h => h v) id)
  | .program k, f, h => fun v => Doomed.bind (h.imp (fun h => h v) id)
  | .mark _ k, f, h => Doomed.bind (s := k) h
  | .halt _, f, _ => trivial
theorem doomed_run {α : Type} {P : Program} : ∀ {s : Sem α} {w w' : World} {v : α}, Doomed s → s.run P w ≠ .ok v w'
  | .pure _, _, _, _, h => h.elim
  | .load m a k, w, w', v, h => by
    unfold Sem.run
    split
    · exact doomed_run (h _)
    · split
      · exact doomed_run (h _)
      · simp
  | .store m a x k, w, w', v, h => by
    have hk : ∀ w, k.run P w ≠ .ok v w' := fun w => doomed_run (s := k) h
    cases x <;> unfold Sem.run <;> (repeat' split) <;> first | exact hk _ | (intro e; cases e)
  | .new o k, w, w', v, h => doomed_run (s := k w.heap.size) (h _)
  | .shape r k, w, w', v, h => doomed_run (s := k (w.shape? r)) (h _)
  | .freeze a n k, w, w', v, h => doomed_run (s := k) h
  | .frozen a k, w, w', v, h => doomed_run (s := k (w.frozen? a)) (h _)
  | .getObj r k, w, w', v, h => by
    unfold Sem.run
    split
    · simp
    · exact doomed_run (h _)
    · simp
  | .setObj r o k, w, w', v, h => by
    unfold Sem.run
    split
    · simp
    · exact doomed_run (s := k) h
    · simp
  | .choose q k, w, w', v, h => by
    unfold Sem.run
    split
    · exact doomed_run (h _)
    · exact doomed_run (h _)
  | .sys c k, w, w', v, h => doomed_run (s := k (w.sys c).1) (h _)
  | .program k, w, w', v, h => doomed_run (s := k P) (h _)
  | .mark m k, w, w', v, h => doomed_run (s := k) h
  | .halt _, w, w', v, _ => by simp [Sem.run]

def Plain (P : Program) {α : Type} : Sem α → Prop
  | .pure _ => True
  | .load m _ k => m = .plain ∧ ∀ v, Plain P (k v)
  | .store m _ _ k => m = .plain ∧ Plain P k
  | .new o k => okObj o = true ∧ ∀ r, Plain P (k r)
  | .shape _ k => ∀ s, Doomed (k s)
  | .freeze _ _ k => Doomed k
  | .frozen _ k => ∀ b, Doomed (k b)
  | .getObj _ k => ∀ o, okObj o = true → Plain P (k o)
  | .setObj _ o k => (okObj o = true ∧ o.isChan = false) ∧ Plain P k
  | .choose _ k => ∀ n, Plain P (k n)
  | .sys _ _ => False
  | .program k => Plain P (k P)
  | .mark m k => (m = .noRoom ∨ ∃ f, m = .extern f) ∧ Plain P k
  | .halt _ => True

theorem Plain.bind {P : Program} {α β : Type} : ∀ {s : Sem α} {f : α → Sem β}, Plain P s → (∀ a, Plain P (f a)) → Plain P (s.bind f)
  | .pure a, f, _, hf => hf a
  | .load _ _ k, f, h, hf => ⟨h.1, fun v => Plain.bind (h.2 v) hf⟩
  | .store _ _ _ k, f, h, hf => ⟨h.1, Plain.bind h.2 hf⟩
  | .new _ k, f, h, hf => ⟨h.1, fun v => Plain.bind (h.2 v) hf⟩
  | .shape _ k, f, h, hf => fun v => Doomed.bind (.inl (h v))
  | .freeze _ _ k, f, h, hf => Doomed.bind (s := k) (.inl h)
  | .frozen _ k, f, h, hf => fun v => Doomed.bind (.inl (h v))
  | .getObj _ k, f, h, hf => fun o ho => Plain.bind (h o ho) hf
  | .setObj _ _ k, f, h, hf => ⟨h.1, Plain.bind h.2 hf⟩
  | .choose _ k, f, h, hf => fun n => Plain.bind (h n) hf
  | .sys _ _, f, h, hf => h.elim
  | .program k, f, h, hf => Plain.bind (s := k P) h hf
  | .mark _ k, f, h, hf => ⟨h.1, Plain.bind h.2 hf⟩
  | .halt _, f, _, _ => trivial

section
variable {P : Program}
theorem plain_bind {α β : Type} {s : Sem α} {f : α → Sem β} (h : Plain P s) (hf : ∀ a, Plain P (f a)) : Plain P (s >>= f) := Plain.bind h hf
theorem plain_pure {α : Type} (a : α) : Plain P (Pure.pure a : Sem α) := trivial
theorem plain_map {α β : Type} {s : Sem α} {f : α → β} (h : Plain P s) : Plain P (Functor.map f s) := Plain.bind h fun _ => trivial
theorem plain_ite {α : Type} {c : Prop} [Decidable c] {x y : Sem α} (hx : Plain P x) (hy : Plain P y) : Plain P (if c then x else y) := by split; exact hx; exact hy
theorem plain_load (a : Addr) : Plain P (load a) := ⟨rfl, fun _ => trivial⟩
theorem plain_store (a : Addr) (v : Value) : Plain P (store a v) := ⟨rfl, trivial⟩
theorem plain_new {o : Obj} (h : okObj o = true) : Plain P (newObj o) := ⟨h, fun _ => trivial⟩
theorem plain_getObj (r : Nat) {β : Type} {f : Obj → Sem β} (h : ∀ o, okObj o = true → Plain P (f o)) : Plain P (getObj r >>= f) := fun o ho => h o ho
theorem plain_choose (q : Question) : Plain P (choose q) := fun _ => trivial
theorem plain_stuck {α : Type} (s : String) : Plain P (stuck s : Sem α) := trivial
theorem plain_unsupported {α : Type} (u : Unsupported) : Plain P (unsupported u : Sem α) := trivial
theorem plain_askRoom (n : Nat) : Plain P (askRoom n) := by unfold askRoom; split; exact ⟨.inl rfl, trivial⟩; exact trivial
theorem plain_prog {β : Type} {f : Program → Sem β} (h : Plain P (f P)) : Plain P (program >>= f) := h
theorem plain_info (t : TypeId) : Plain P (typeInfo t) := by
  unfold typeInfo
  refine plain_prog ?_
  split <;> trivial
theorem plain_under (t : TypeId) : Plain P (underlying t) := by
  unfold underlying
  refine plain_prog ?_
  split <;> trivial
theorem plain_under_of {t : TypeId} {d : TypeDesc} {β : Type} {f : TypeDesc → Sem β} (h : P.underlying t = some d) (hf : Plain P (f d)) : Plain P (underlying t >>= f) := by
  unfold underlying
  show Plain P ((match P.underlying t with | some d => pure d | none => stuck "no such type") >>= f)
  rw [h]
  exact hf
theorem plain_size (t : TypeId) : Plain P (sizeOf t) := plain_bind (plain_info t) fun _ => trivial
theorem plain_agg (t : TypeId) : Plain P (isAgg t) := plain_bind (plain_under t) fun d => by cases d <;> trivial
theorem plain_zero (t : TypeId) : Plain P (zeroValue t) := plain_bind (plain_info t) fun i => by
  split <;> trivial
theorem plain_loadCellsFrom (a : Addr) : ∀ (n i : Nat) (acc : Array Value), Plain P (loadCellsFrom a i n acc)
  | 0, _, _ => trivial
  | n + 1, i, acc => plain_bind (plain_load _) fun v => plain_loadCellsFrom a n (i + 1) (acc.push v)
theorem plain_loadCells (a : Addr) (n : Nat) : Plain P (loadCells a n) := plain_loadCellsFrom a n 0 #[]
theorem plain_storeCells (a : Addr) : ∀ (vs : List Value) (i : Nat), Plain P (storeCells a vs i)
  | [], _ => trivial
  | v :: r, i => plain_bind (plain_store _ _) fun _ => plain_storeCells a r (i + 1)
theorem plain_loadVar (t : TypeId) (a : Addr) : Plain P (loadVar t a) := by
  unfold loadVar
  refine plain_bind (plain_agg t) fun b => ?_
  split
  · exact plain_bind (plain_size t) fun n => plain_map (plain_loadCells a n)
  · exact plain_load a
theorem plain_storeVar (t : TypeId) (a : Addr) (v : Value) : Plain P (storeVar t a v) := by
  unfold storeVar
  refine plain_bind (plain_size t) fun n => ?_
  split
  · trivial
  · exact plain_storeCells a _ 0
theorem plain_newRow (e : TypeId) (cs : Array Value) : Plain P (newRow e cs) := plain_bind (plain_new rfl) fun _ => trivial
theorem plain_newVar (t : TypeId) (v : Value) : Plain P (newVar t v) := plain_newRow t _
theorem plain_elemOf (t : TypeId) : Plain P (elemOf t) := plain_bind (plain_under t) fun d => by
  split <;> trivial
theorem plain_part (t : TypeId) (cs : Array Value) (o : Nat) : Plain P (part t cs o) := by
  unfold part
  refine plain_bind (plain_agg t) fun b => ?_
  split
  · exact plain_bind (plain_size t) fun _ => trivial
  · split <;> trivial
theorem plain_panic {α : Type} (e : RuntimeError) : Plain P (runtimePanic e : Sem α) := by
  unfold runtimePanic
  refine plain_prog ?_
  split
  · trivial
  · trivial
  · trivial
  · trivial
  · refine plain_bind (plain_elemOf _) fun t => plain_bind (plain_newVar _ _) fun r => trivial
  · refine plain_bind (plain_elemOf _) fun t => plain_bind (plain_newVar _ _) fun r => trivial
  · trivial
theorem plain_bounds {α : Type} (k : IntKind) (x y : Int) (c : BoundsCode) : Plain P (boundsPanic k x y c : Sem α) := by
  unfold boundsPanic
  dsimp only
  split
  · exact plain_bind (plain_map (plain_choose _)) fun _ => plain_panic _
  · exact plain_bind trivial fun _ => plain_panic _
theorem plain_asAddr (v : Value) : Plain P (asAddr v) := by
  unfold asAddr
  split
  · trivial
  · exact plain_panic _
  · trivial
theorem plain_asInt (v : Value) : Plain P (asInt v) := by
  unfold asInt asIntOf
  refine plain_map ?_
  split <;> trivial
theorem plain_asBool (v : Value) : Plain P (asBool v) := by
  unfold asBool
  split <;> trivial
theorem plain_listM {α β : Type} {f : α → Sem β} (h : ∀ a, Plain P (f a)) : ∀ l : List α, Plain P (l.mapM f)
  | [] => trivial
  | x :: l => by
    rw [List.mapM_cons]
    exact plain_bind (h x) fun _ => plain_bind (plain_listM h l) fun _ => trivial
theorem plain_arrM {α β : Type} {f : α → Sem β} (h : ∀ a, Plain P (f a)) (l : Array α) : Plain P (l.mapM f) := by
  rw [Array.mapM_eq_mapM_toList]
  exact plain_map (plain_listM h _)
theorem plain_results (fn : Func) (tmps : Array Value) : Plain P (results fn tmps) := by
  unfold results
  refine plain_bind (plain_arrM (fun r => ?_) _) fun vs => trivial
  split
  · trivial
  · exact plain_bind (plain_asAddr _) fun a => plain_loadVar _ _
end

section
variable {O Z : Nat → Prop} {w w1 w2 w' W W1 W' : World} {P : Program}

def AllOk (w : World) : Prop := ∀ (b : Nat) (o : Obj), w.heap[b]? = some o → okObj o = true
theorem Lag.allOk (h : Lag O Z w W) : AllOk w := fun _ _ ho => h.obj ho
theorem farLoad_none (h : AllOk w) (a : Addr) (hc : w.cell? a = none) (at_ : Bool) : ∃ e, w.farLoad P a at_ = .error e := by
  unfold World.farLoad
  split
  · rename_i ho
    have := h _ _ ho
    cases this
  · exact ⟨_, rfl⟩
theorem farStore_none (h : AllOk w) (a : Addr) (v : Value) (hc : w.cell? a = none) (at_ : Bool) : ∃ e, w.farStore P a v at_ = .error e := by
  unfold World.farStore
  split
  · rename_i ho
    have := h _ _ ho
    cases this
  · exact ⟨_, rfl⟩
theorem allOk_setCell (h : AllOk w) (a : Addr) (v : Value) : AllOk (w.setCell a v) := by
  intro b o ho
  simp only [World.setCell, Array.getElem?_modify] at ho
  split at ho
  · rename_i e
    subst e
    obtain ⟨o', h1, h2⟩ := Option.map_eq_some_iff.1 ho
    have := h _ _ h1
    subst h2
    cases o' <;> first | rfl | exact this
  · exact h b o ho
theorem allOk_push (h : AllOk w) {o : Obj} (ho : okObj o = true) : AllOk { w with heap := w.heap.push o } := by
  intro b o' hb
  simp only [Array.getElem?_push] at hb
  split at hb
  · cases hb; exact ho
  · exact h b o' hb
theorem allOk_set (h : AllOk w) {o : Obj} (r : Nat) (ho : okObj o = true) : AllOk { w with heap := w.heap.setIfInBounds r o } := by
  intro b o' hb
  simp only [Array.getElem?_setIfInBounds] at hb
  split at hb
  · split at hb
    · cases hb; exact ho
    · cases hb
  · exact h b o' hb

def single : Value → Bool
  | .agg _ | .tuple _ => false
  | _ => true
theorem run_store_ok {α : Type} {m : Mode} {a : Addr} {x : Value} {k : Sem α} {v : α} (hw : AllOk w) (h : (Sem.store m a x k).run P w = .ok v w') :
    single x = true ∧ (∃ o, w.cell? a = some o) ∧ w.frozen? a = false ∧ k.run P (w.setCell a x) = .ok v w' := by
  have key : single x = true → (Sem.store m a x k).run P w = (match w.cell? a with
    | some _ => if w.frozen? a then .halt (.unsupported (.unsafePointer "a write to bytes that a string shares")) w else k.run P (w.setCell a x)
    | none => match w.farStore P a x (m == .atomic) with
      | .ok (w, _) => k.run P w
      | .error h => .halt h w) := by
    intro hx
    cases x <;> first | rfl | cases hx
  have hx : single x = true := by
    cases x <;> first | rfl | cases h
  rw [key hx] at h
  refine ⟨hx, ?_⟩
  cases hc : w.cell? a with
  | none =>
    rw [hc] at h
    obtain ⟨e, he⟩ := farStore_none (P := P) hw a x hc (m == .atomic)
    simp only [he] at h
    cases h
  | some o =>
    rw [hc] at h
    simp only at h
    split at h
    · cases h
    · rename_i hf
      exact ⟨⟨o, rfl⟩, by simpa using hf, h⟩
theorem run_store_of {α : Type} {m : Mode} {a : Addr} {x : Value} {k : Sem α} (hx : single x = true) {o : Value} (hc : w.cell? a = some o) (hf : w.frozen? a = false) : (Sem.store m a x k).run P w = k.run P (w.setCell a x) := by
  have : (Sem.store m a x k).run P w = (match w.cell? a with
    | some _ => if w.frozen? a then .halt (.unsupported (.unsafePointer "a write to bytes that a string shares")) w else k.run P (w.setCell a x)
    | none => match w.farStore P a x (m == .atomic) with
      | .ok (w, _) => k.run P w
      | .error h => .halt h w) := by cases x <;> first | rfl | cases hx
  rw [this, hc]
  simp [hf]
theorem events_store_of {α : Type} {m : Mode} {a : Addr} {x : Value} {k : Sem α} (hx : single x = true) {o : Value} (hc : w.cell? a = some o) (hf : w.frozen? a = false) (es : Array Event) : (Sem.store m a x k).events P w es = k.events P (w.setCell a x) (es.push ⟨.cell a, true, m == .atomic⟩) := by
  have : (Sem.store m a x k).runT P w es = (match w.cell? a with
    | some _ => if w.frozen? a then (.halt (.unsupported (.unsafePointer "a write to bytes that a string shares")) w, es) else k.runT P (w.setCell a x) (es.push ⟨.cell a, true, m == .atomic⟩)
    | none => match w.farStore P a x (m == .atomic) with
      | .ok (w, touched) => k.runT P w (es ++ touched.toArray.map (⟨.cell ·, true, m == .atomic⟩))
      | .error h => (.halt h w, es)) := by cases x <;> first | rfl | cases hx
  unfold Sem.events
  rw [this, hc]
  simp [hf]
theorem run_load_ok {α : Type} {m : Mode} {a : Addr} {k : Value → Sem α} {v : α} (hw : AllOk w) (h : (Sem.load m a k).run P w = .ok v w') : ∃ x, w.cell? a = some x ∧ (k x).run P w = .ok v w' := by
  unfold Sem.run at h
  cases hc : w.cell? a with
  | some x => rw [hc] at h; exact ⟨x, rfl, h⟩
  | none =>
    rw [hc] at h
    obtain ⟨e, he⟩ := farLoad_none (P := P) hw a hc (m == .atomic)
    simp only [he] at h
    cases h
theorem run_getObj_ok {α : Type} {r : Nat} {k : Obj → Sem α} {v : α} (h : (Sem.getObj r k).run P w = .ok v w') : ∃ o, w.heap[r]? = some o ∧ (∀ c t f, o ≠ .cells c t f) ∧ (k o).run P w = .ok v w' := by
  unfold Sem.run at h
  split at h
  · cases h
  · rename_i o hn ho
    exact ⟨o, ho, fun c t f e => hn c t f e, h⟩
  · cases h
theorem run_setObj_ok {α : Type} {r : Nat} {o : Obj} {k : Sem α} {v : α} (h : (Sem.setObj r o k).run P w = .ok v w') : ∃ o', w.heap[r]? = some o' ∧ (∀ c t f, o' ≠ .cells c t f) ∧ k.run P { w with heap := w.heap.setIfInBounds r o } = .ok v w' := by
  unfold Sem.run at h
  split at h
  · cases h
  · rename_i o' hn ho
    exact ⟨o', ho, fun c t f e => hn c t f e, h⟩
  · cases h

theorem plain_mono {α : Type} : ∀ (s : Sem α) (w w' : World) (v : α), Plain P s → AllOk w → s.run P w = .ok v w' → w.heap.size ≤ w'.heap.size ∧ w.drawn ≤ w'.drawn
  | .pure a, w, w', v, _, _, h => by cases h; exact ⟨Nat.le_refl _, Nat.le_refl _⟩
  | .load m a k, w, w', v, hp, hw, h => by
    obtain ⟨x, _, h1⟩ := run_load_ok hw h
    exact plain_mono _ w w' v (hp.2 _) hw h1
  | .store m a x k, w, w', v, hp, hw, h => by
    obtain ⟨_, _, _, h1⟩ := run_store_ok hw h
    have := plain_mono k _ w' v hp.2 (allOk_setCell hw a x) h1
    simpa [World.setCell] using this
  | .new o k, w, w', v, hp, hw, h => by
    have := plain_mono (k w.heap.size) _ w' v (hp.2 _) (allOk_push hw hp.1) h
    simp at this
    omega
  | .shape r k, w, _, _, hp, _, h => absurd h (doomed_run (s := k (w.shape? r)) (hp _))
  | .freeze _ _ k, _, _, _, hp, _, h => absurd h (doomed_run (s := k) hp)
  | .frozen a k, w, _, _, hp, _, h => absurd h (doomed_run (s := k (w.frozen? a)) (hp _))
  | .getObj r k, w, w', v, hp, hw, h => by
    obtain ⟨o, ho, _, h1⟩ := run_getObj_ok h
    exact plain_mono (k o) w w' v (hp o (hw _ _ ho)) hw h1
  | .setObj r o k, w, w', v, hp, hw, h => by
    obtain ⟨o', ho, _, h1⟩ := run_setObj_ok h
    have := plain_mono k _ w' v hp.2 (allOk_set hw r hp.1.1) h1
    simpa using this
  | .choose q k, w, w', v, hp, hw, h => by
    unfold Sem.run at h
    split at h
    · exact plain_mono _ w w' v (hp _) hw h
    · have := plain_mono _ { w with drawn := w.drawn + 1 } w' v (hp _) hw h
      simp at this
      omega
  | .sys _ _, _, _, _, hp, _, _ => hp.elim
  | .program k, w, w', v, hp, hw, h => plain_mono (k P) w w' v hp hw h
  | .mark m k, w, w', v, hp, hw, h => plain_mono k w w' v hp.2 hw h
  | .halt _, _, _, _, _, _, h => by cases h

theorem lag_setCell (h : Lag O Z w W) {a : Addr} {x y : Value} (hc : w.cell? a = some y) (hf : w.frozen? a = false) : Lag O Z (w.setCell a x) (W.setCell a x) ∧ W.cell? a = some y ∧ W.frozen? a = false ∧ O a.block := by
  obtain ⟨h1, h2⟩ := h.cell hc
  have ho : O a.block := h2.elim id fun h => by rw [hf] at h; cases h.2
  obtain ⟨o, e1, e2, e3⟩ := h.own _ ho
  have hm : ∀ (b : Nat), b ≠ a.block → (w.setCell a x).heap[b]? = w.heap[b]? ∧ (W.setCell a x).heap[b]? = W.heap[b]? := fun b hb => by
    simp only [World.setCell, Array.getElem?_modify, if_neg (Ne.symm hb)]
    exact ⟨trivial, trivial⟩
  refine ⟨⟨h.os, h.tape, h.output, by simpa [World.setCell] using h.size, fun b hb => ?_, fun b o' hb hb' => ?_, fun b t hb hb' => ?_⟩, h1, ?_, ho⟩
  · by_cases hba : b = a.block
    · subst hba
      simp only [World.setCell, Array.getElem?_modify, if_true, e1, e2, Option.map_some]
      refine ⟨_, rfl, rfl, ?_⟩
      cases o <;> first | rfl | exact e3
    · rw [(hm b hba).1, (hm b hba).2]
      exact h.own b hb
  · have hba : b ≠ a.block := fun e => hb (e ▸ ho)
    rw [(hm b hba).1] at hb'
    rw [(hm b hba).2]
    exact h.rest b o' hb hb'
  · have hba : b ≠ a.block := fun e => hb (e ▸ ho)
    rw [(hm b hba).1] at hb'
    rw [(hm b hba).2]
    exact h.flat b t hb hb'
  · unfold World.frozen? at hf ⊢
    rw [e1] at hf
    rw [e2]
    exact hf
theorem lag_push (h : Lag O Z w W) (hs : w.heap.size = W.heap.size) {o : Obj} (ho : okObj o = true) (d : Nat) : Lag (grow O W { W with heap := W.heap.push o, drawn := d }) Z { w with heap := w.heap.push o, drawn := d } { W with heap := W.heap.push o, drawn := d } := by
  refine ⟨h.os, h.tape, h.output, by simp [hs], fun b hb => ?_, fun b o' hb hb' => ?_, fun b t hb hb' => ?_⟩
  all_goals simp only [grow, Array.size_push] at hb
  · simp only [Array.getElem?_push, hs]
    by_cases hb' : b = W.heap.size
    · simp only [hb', if_true]; exact ⟨o, rfl, rfl, ho⟩
    · simp only [hb', if_false]
      exact h.own b (hb.resolve_right (by omega))
  · have hbn : b ≠ W.heap.size := fun e => hb (.inr ⟨by omega, by omega⟩)
    simp only [Array.getElem?_push, hs, hbn, if_false] at hb' ⊢
    exact h.rest b o' (fun x => hb (.inl x)) hb'
  · have hbn : b ≠ W.heap.size := fun e => hb (.inr ⟨by omega, by omega⟩)
    simp only [Array.getElem?_push, hs, hbn, if_false] at hb' ⊢
    exact h.flat b t (fun x => hb (.inl x)) hb'
theorem lag_set (h : Lag O Z w W) {r : Nat} {o o' : Obj} (hr : w.heap[r]? = some o') (hn : ∀ c t f, o' ≠ .cells c t f) (ho : okObj o = true) :
    Lag O Z { w with heap := w.heap.setIfInBounds r o } { W with heap := W.heap.setIfInBounds r o } ∧ W.heap[r]? = some o' ∧ O r := by
  have hor : O r := by
    refine Classical.byContradiction fun hx => ?_
    rcases h.rest r o' hx hr with ⟨t, f, rfl⟩ | ⟨_, c, t, f, _, rfl⟩
    · exact hn _ _ _ rfl
    · exact hn _ _ _ rfl
  obtain ⟨o2, e1, e2, e3⟩ := h.own r hor
  rw [hr] at e1
  cases e1
  have l1 : r < w.heap.size := (Array.getElem?_eq_some_iff.1 hr).1
  have l2 : r < W.heap.size := (Array.getElem?_eq_some_iff.1 e2).1
  refine ⟨⟨h.os, h.tape, h.output, by simpa using h.size, fun b hb => ?_, fun b o' hb hb' => ?_, fun b t hb hb' => ?_⟩, e2, hor⟩
  · by_cases hbr : r = b
    · subst hbr
      exact ⟨o, by simp [l1], by simp [l2], ho⟩
    · simp only [Array.getElem?_setIfInBounds_ne hbr]
      exact h.own b hb
  · have hbr : r ≠ b := fun e => hb (e ▸ hor)
    simp only [Array.getElem?_setIfInBounds_ne hbr] at hb' ⊢
    exact h.rest b o' hb hb'
  · have hbr : r ≠ b := fun e => hb (e ▸ hor)
    simp only [Array.getElem?_setIfInBounds_ne hbr] at hb' ⊢
    exact h.flat b t hb hb'

structure Does (P : Program) {α : Type} (O Z : Nat → Prop) (s : Sem α) (W : World) (v : α) (W' : World) : Prop where
  run : s.run P W = .ok v W'
  os : W'.os = W.os
  tape : W'.tape = W.tape
  output : W'.output = W.output
  size : W.heap.size ≤ W'.heap.size
  keep : ∀ b, b < W.heap.size → ¬ O b → W'.heap[b]? = W.heap[b]?
  evs : ∀ e ∈ s.events P W #[], EvOk (grow O W W') Z e
theorem mem_events {α : Type} (s : Sem α) (W : World) (es : Array Event) {e : Event} (h : e ∈ s.events P W es) : e ∈ es ∨ e ∈ s.events P W #[] := by
  rw [Sem.events_acc] at h
  exact Array.mem_append.1 h

theorem plain_run {α : Type} : ∀ (s : Sem α) (w W w' : World) (O : Nat → Prop) (v : α), Plain P s → Lag O Z w W → s.run P w = .ok v w' →
    (w.heap.size = W.heap.size ∧ w.drawn = W.drawn ∨ w'.heap.size = w.heap.size ∧ w'.drawn = w.drawn) → ∃ W', Does P O Z s W v W' ∧ Lag (grow O W W') Z w' W' ∧ W'.drawn + w.drawn = w'.drawn + W.drawn
  | .pure a, w, W, w', O, v, _, hl, h, _ => by
    cases h
    exact ⟨W, ⟨rfl, rfl, rfl, rfl, Nat.le_refl _, fun _ _ _ => rfl, fun e he => by simp [Sem.events, Sem.runT] at he⟩, by rw [grow_self]; exact hl, Nat.add_comm _ _⟩
  | .load m a k, w, W, w', O, v, hp, hl, h, hd => by
    obtain ⟨x, hx, h1⟩ := run_load_ok hl.allOk h
    obtain ⟨c1, c2⟩ := hl.cell hx
    obtain ⟨W', hD, hl', hdr⟩ := plain_run (k x) w W w' O v (hp.2 x) hl h1 hd
    obtain ⟨rfl, _⟩ := hp
    refine ⟨W', ⟨?_, hD.os, hD.tape, hD.output, hD.size, hD.keep, fun e he => ?_⟩, hl', by simpa [World.setCell] using hdr⟩
    · rw [← hD.run]
      show (Sem.load .plain a k).run P W = _
      simp only [Sem.run, c1]
    · have : (Sem.load .plain a k).events P W #[] = (k x).events P W (#[].push ⟨.cell a, false, false⟩) := by
        unfold Sem.events
        simp only [Sem.runT, c1]
        rfl
      rw [this] at he
      rcases mem_events _ _ _ he with he | he
      · simp at he
        subst he
        exact ⟨rfl, c2.imp .inl fun x => ⟨x.1, rfl⟩⟩
      · exact hD.evs e he
  | .store m a x k, w, W, w', O, v, hp, hl, h, hd => by
    obtain ⟨hx, ⟨y, hy⟩, hf, h1⟩ := run_store_ok hl.allOk h
    obtain ⟨hl1, c1, c2, ho⟩ := lag_setCell (x := x) hl hy hf
    have hsz : (W.setCell a x).heap.size = W.heap.size := by simp [World.setCell]
    obtain ⟨W', hD, hl', hdr⟩ := plain_run k _ _ w' O v hp.2 hl1 h1 (by simpa [World.setCell] using hd)
    obtain ⟨rfl, _⟩ := hp
    have hg : grow O (W.setCell a x) W' = grow O W W' := by unfold grow; rw [hsz]
    rw [hg] at hl'
    refine ⟨W', ⟨?_, hD.os, hD.tape, hD.output, hsz ▸ hD.size, fun b hb hn => ?_, fun e he => ?_⟩, hl', by simpa [World.setCell] using hdr⟩
    · rw [run_store_of hx c1 c2]; exact hD.run
    · rw [hD.keep b (by rw [hsz]; exact hb) hn]
      have : a.block ≠ b := fun e => hn (e ▸ ho)
      simp only [World.setCell, Array.getElem?_modify, if_neg this]
    · rw [events_store_of hx c1 c2] at he
      rcases mem_events _ _ _ he with he | he
      · simp at he
        subst he
        exact ⟨rfl, .inl (.inl ho)⟩
      · rw [← hg]; exact hD.evs e he
  | .new o k, w, W, w', O, v, hp, hl, h, hd => by
    have hm := plain_mono (k w.heap.size) _ w' v (hp.2 _) (allOk_push hl.allOk hp.1) h
    simp at hm
    have hs : w.heap.size = W.heap.size ∧ w.drawn = W.drawn := hd.resolve_right fun x => by omega
    have hl1 := lag_push hl hs.1 hp.1 W.drawn
    have e1 : ({ w with heap := w.heap.push o, drawn := W.drawn } : World) = { w with heap := w.heap.push o } := by rw [← hs.2]
    rw [e1] at hl1
    obtain ⟨W', hD, hl', hdr⟩ := plain_run (k w.heap.size) _ { W with heap := W.heap.push o } w' _ v (hp.2 _) hl1 h (.inl ⟨by simp [hs.1], hs.2⟩)
    have hsz : W.heap.size ≤ W'.heap.size := by have := hD.size; simp at this; omega
    have hg : grow (grow O W { W with heap := W.heap.push o }) { W with heap := W.heap.push o } W' = grow O W W' := grow_trans (by simp) hD.size
    rw [hg] at hl'
    rw [hs.1] at hD
    refine ⟨W', ⟨?_, hD.os, hD.tape, hD.output, hsz, fun b hb hn => ?_, fun e he => ?_⟩, hl', by simpa [World.setCell] using hdr⟩
    · exact hD.run
    · rw [hD.keep b (by simp; omega) (by simp only [grow, Array.size_push]; rintro (x | x); exact hn x; omega)]
      simp only [Array.getElem?_push]
      rw [if_neg (by omega)]
    · rw [← hg]; exact hD.evs e he
  | .shape r k, w, _, _, _, _, hp, _, h, _ => absurd h (doomed_run (s := k (w.shape? r)) (hp _))
  | .freeze _ _ k, _, _, _, _, _, hp, _, h, _ => absurd h (doomed_run (s := k) hp)
  | .frozen a k, w, _, _, _, _, hp, _, h, _ => absurd h (doomed_run (s := k (w.frozen? a)) (hp _))
  | .getObj r k, w, W, w', O, v, hp, hl, h, hd => by
    obtain ⟨o, ho, hn, h1⟩ := run_getObj_ok h
    have hok := hl.obj ho
    obtain ⟨_, e2, hor⟩ := lag_set hl ho hn hok
    obtain ⟨W', hD, hl', hdr⟩ := plain_run (k o) w W w' O v (hp o hok) hl h1 hd
    refine ⟨W', ⟨?_, hD.os, hD.tape, hD.output, hD.size, hD.keep, fun e he => ?_⟩, hl', by simpa [World.setCell] using hdr⟩
    · rw [← hD.run]
      cases o <;> first | exact absurd rfl (hn _ _ _) | simp only [Sem.run, e2]
    · have : (Sem.getObj r k).events P W #[] = (k o).events P W (#[].push ⟨.obj r, false, o.isChan⟩) := by
        unfold Sem.events
        cases o <;> first | exact absurd rfl (hn _ _ _) | simp only [Sem.runT, e2]
      rw [this] at he
      rcases mem_events _ _ _ he with he | he
      · simp at he
        subst he
        exact ⟨.inr rfl, .inl hor⟩
      · exact hD.evs e he
  | .setObj r o k, w, W, w', O, v, hp, hl, h, hd => by
    obtain ⟨o', ho, hn, h1⟩ := run_setObj_ok h
    obtain ⟨hl1, e2, hor⟩ := lag_set hl ho hn hp.1.1
    have hsz : ({ W with heap := W.heap.setIfInBounds r o } : World).heap.size = W.heap.size := by simp
    obtain ⟨W', hD, hl', hdr⟩ := plain_run k _ _ w' O v hp.2 hl1 h1 (by simpa using hd)
    have hg : grow O { W with heap := W.heap.setIfInBounds r o } W' = grow O W W' := by unfold grow; rw [hsz]
    rw [hg] at hl'
    refine ⟨W', ⟨?_, hD.os, hD.tape, hD.output, hsz ▸ hD.size, fun b hb hnb => ?_, fun e he => ?_⟩, hl', by simpa [World.setCell] using hdr⟩
    · rw [← hD.run]
      cases o' <;> first | exact absurd rfl (hn _ _ _) | simp only [Sem.run, e2]
    · rw [hD.keep b (by rw [hsz]; exact hb) hnb]
      have : r ≠ b := fun e => hnb (e ▸ hor)
      simp only [Array.getElem?_setIfInBounds_ne this]
    · have : (Sem.setObj r o k).events P W #[] = k.events P { W with heap := W.heap.setIfInBounds r o } (#[].push ⟨.obj r, true, o.isChan⟩) := by
        unfold Sem.events
        cases o' <;> first | exact absurd rfl (hn _ _ _) | simp only [Sem.runT, e2]
      rw [this] at he
      rcases mem_events _ _ _ he with he | he
      · simp at he
        subst he
        exact ⟨.inl hp.1.2, .inl hor⟩
      · rw [← hg]; exact hD.evs e he
  | .choose q k, w, W, w', O, v, hp, hl, h, hd => by
    unfold Sem.run at h
    by_cases hq : q.forced = true
    · rw [if_pos hq] at h
      obtain ⟨W', hD, hl', hdr⟩ := plain_run (k 0) w W w' O v (hp 0) hl h hd
      refine ⟨W', ⟨?_, hD.os, hD.tape, hD.output, hD.size, hD.keep, fun e he => ?_⟩, hl', by simpa [World.setCell] using hdr⟩
      · rw [← hD.run]; simp only [Sem.run, hq, if_true]
      · have : (Sem.choose q k).events P W #[] = (k 0).events P W #[] := by
          unfold Sem.events
          simp only [Sem.runT, hq, if_true]
        rw [this] at he
        exact hD.evs e he
    · rw [if_neg hq] at h
      have hm := plain_mono _ { w with drawn := w.drawn + 1 } w' v (hp _) hl.allOk h
      simp at hm
      have hs : w.heap.size = W.heap.size ∧ w.drawn = W.drawn := hd.resolve_right fun x => by omega
      have hl1 : Lag O Z { w with drawn := w.drawn + 1 } { W with drawn := W.drawn + 1 } := ⟨hl.os, hl.tape, hl.output, hl.size, hl.own, hl.rest, hl.flat⟩
      obtain ⟨W', hD, hl', hdr⟩ := plain_run _ _ { W with drawn := W.drawn + 1 } w' O v (hp _) hl1 h (.inl ⟨hs.1, by simp [hs.2]⟩)
      rw [hs.2, hl.tape] at hD
      refine ⟨W', ⟨?_, hD.os, hD.tape, hD.output, hD.size, hD.keep, fun e he => ?_⟩, hl', by simp at hdr; omega⟩
      · rw [← hD.run]; simp only [Sem.run, hq, if_false, Bool.false_eq_true]
      · have : (Sem.choose q k).events P W #[] = (k (q.cut (W.tape W.drawn q))).events P { W with drawn := W.drawn + 1 } #[] := by
          unfold Sem.events
          simp only [Sem.runT, hq, if_false, Bool.false_eq_true]
        rw [this] at he
        exact hD.evs e he
  | .sys _ _, _, _, _, _, _, hp, _, _, _ => hp.elim
  | .program k, w, W, w', O, v, hp, hl, h, hd => by
    obtain ⟨W', hD, hl', hdr⟩ := plain_run (k P) w W w' O v hp hl h hd
    exact ⟨W', ⟨hD.run, hD.os, hD.tape, hD.output, hD.size, hD.keep, hD.evs⟩, hl', hdr⟩
  | .mark m k, w, W, w', O, v, hp, hl, h, hd => by
    obtain ⟨W', hD, hl', hdr⟩ := plain_run k w W w' O v hp.2 hl h hd
    refine ⟨W', ⟨hD.run, hD.os, hD.tape, hD.output, hD.size, hD.keep, fun e he => ?_⟩, hl', by simpa [World.setCell] using hdr⟩
    have : (Sem.mark m k).events P W #[] = k.events P W (#[].push ⟨.mark m, false, true⟩) := rfl
    rw [this] at he
    rcases mem_events _ _ _ he with he | he
    · simp at he
      subst he
      rcases hp.1 with rfl | ⟨f, rfl⟩ <;> trivial
    · exact hD.evs e he
  | .halt _, _, _, _, _, _, _, _, h, _ => by cases h
end
end Go.Proofs.YtgcbcagaibecbaaGreatDoor.Gap

namespace Go.Proofs.YtgcbcagaibecbaaGreatDoor.Gap
set_option maxRecDepth 20000
open Go Go.Conc
variable [Go.Proofs.YtgcbcagaibecbaaGreatDoor.Gap.Leaps]

def wgap (w : World) (n d : Nat) : World := { w with heap := w.heap ++ Array.replicate n dark, drawn := d }

section
variable {P : Program}
def Quiet (P : Program) {α : Type} (s : Sem α) (w : World) (r : α) (w' : World) : Prop := ∀ (O Z : Nat → Prop) (W : World), Lag O Z w W → ∃ W', Does P O Z s W r W' ∧ Lag (grow O W W') Z w' W' ∧ W'.drawn = W.drawn
def Loud (P : Program) {α : Type} (s : Sem α) (w : World) (r : α) (w' : World) : Prop := ∀ (O Z : Nat → Prop) (W : World), Lag O Z w W → w.heap.size = W.heap.size → w.drawn = W.drawn → ∃ W', Does P O Z s W r W' ∧ Lag (grow O W W') Z w' W'
theorem Quiet.of {α : Type} {s : Sem α} {w w' : World} {r : α} (hp : Plain P s) (h : s.run P w = .ok r w') (hs : w'.heap.size = w.heap.size) (hd : w'.drawn = w.drawn) : Quiet P s w r w' :=
  fun O _ W hl => let ⟨W', h1, h2, h3⟩ := plain_run s w W w' O r hp hl h (.inr ⟨hs, hd⟩); ⟨W', h1, h2, by omega⟩
theorem Loud.of {α : Type} {s : Sem α} {w w' : World} {r : α} (hp : Plain P s) (h : s.run P w = .ok r w') : Loud P s w r w' :=
  fun O _ W hl h1 h2 => let ⟨W', h3, h4, _⟩ := plain_run s w W w' O r hp hl h (.inl ⟨h1, h2⟩); ⟨W', h3, h4⟩

variable {O Z : Nat → Prop} {w w1 w2 w' W W1 W' : World}
theorem Lag.gap (h : Lag O Z w W) : Lag O Z (Gap.wgap w (W.heap.size - w.heap.size) W.drawn) W := by
  have key : ∀ (b : Nat) (o : Obj), (w.heap ++ Array.replicate (W.heap.size - w.heap.size) dark)[b]? = some o → w.heap[b]? = some o ∨ o = dark := fun b o hb => by
    rw [Array.getElem?_append] at hb
    split at hb
    · exact .inl hb
    · rw [Array.getElem?_replicate] at hb
      split at hb
      · cases hb; exact .inr rfl
      · cases hb
  refine ⟨h.os, h.tape, h.output, ?_, fun b hb => ?_, fun b o hb ho => ?_, fun b t hb ho => ?_⟩
  · have := h.size
    simp only [Gap.wgap, Array.size_append, Array.size_replicate]
    omega
  · obtain ⟨o, h1, h2, h3⟩ := h.own b hb
    refine ⟨o, ?_, h2, h3⟩
    have hlt := (Array.getElem?_eq_some_iff.1 h1).1
    simp only [Gap.wgap, Array.getElem?_append_left hlt]
    exact h1
  · rcases key b o ho with ho | rfl
    · exact h.rest b o hb ho
    · exact .inl ⟨0, (0, 1), rfl⟩
  · rcases key b _ ho with ho | ho
    · exact h.flat b t hb ho
    · cases ho
theorem gap_size (h : w.heap.size ≤ W.heap.size) : (Gap.wgap w (W.heap.size - w.heap.size) W.drawn).heap.size = W.heap.size := by
  simp only [Gap.wgap, Array.size_append, Array.size_replicate]
  omega
end

section
variable (P : Program)
def AfterW (main : Bool) (Z : Nat → Prop) (Stop : (Nat → Prop) → Goroutine → World → Prop) (b : Frame) (k : List Item) (cs : List Frame) : Exit → (Nat → Prop) → Act → World → Prop
  | .normal, O, a, W => Way P main Z Stop O (G (b.at a k) cs) W
  | .exit id, O, a, W => ∃ k', exitTo id k = some k' ∧ Way P main Z Stop O (G (b.at a k') cs) W
  | .ret, O, a, W => ∀ todo, Way P main Z Stop O (G { b.at a todo with mode := .returning } cs) W
  | _, _, _, _ => False

def From (todo : Frame → List Item → List Item) (Q : Exit → Act → World → Prop) (a : Act) (w : World) : Prop :=
  ∀ (main : Bool) (Z : Nat → Prop) (Stop : (Nat → Prop) → Goroutine → World → Prop) (O : Nat → Prop) (W : World) (b : Frame) (k : List Item) (cs : List Frame), b.kind ≠ .early → Lag O Z w W →
    (∀ e a' w' O' W', (∀ x, O x → O' x) → Lag O' Z w' W' → Q e a' w' → AfterW P main Z Stop b k cs e O' a' W') → Way P main Z Stop O (G (b.at a (todo b k)) cs) W
def gwp (c : Code) (Q : Exit → Act → World → Prop) (a : Act) (w : World) : Prop := From P (fun _ k => .code c :: k) Q a w
def gops (ops : Array Oper) (l : List Nat) (Q : Exit → Act → World → Prop) (a : Act) (w : World) : Prop := From P (fun _ k => .inRegion ops l :: k) Q a w

def bodyG (fn : Func) (R : Value → World → Prop) : Exit → Act → World → Prop
  | .normal, a, w | .ret, a, w => a.defers = [] ∧ ∃ v, Quiet P (results fn a.tmps) w v w ∧ R v w
  | _, _, _ => False
structure CallsG (f : FuncId) (args : Array Value) (w : World) (R : Value → World → Prop) : Prop where
  ex : (∃ fn c, P.funcs[f]? = some fn ∧ fn.body = some c ∧ gwp P c (bodyG P fn R) { tmps := args ++ Array.replicate (fn.ntmps - args.size) undef, defers := [] } w) ∨
    ∀ (main : Bool) (Z : Nat → Prop) (Stop : (Nat → Prop) → Goroutine → World → Prop) (O : Nat → Prop) (W : World) (c : Frame) (cs : List Frame), c.mode = .run → Lag O Z w W →
      (∀ v w' O' W', (∀ x, O x → O' x) → Lag O' Z w' W' → R v w' → Way P main Z Stop O' (G (c.finish v) cs) W') → Way P main Z Stop O (G (Frame.enter P f args .normal) (c :: cs)) W
def uponV (o : Oper) (a : Act) (K : Act → World → Prop) : Next → World → Prop
  | .value v, w => K (a.put o.dst v) w
  | .skip, w => K (a.put o.dst undef) w
  | _, _ => False
def gOp (o : Oper) (a : Act) (w : World) (K : Act → World → Prop) : Prop :=
  (∃ r w', Quiet P (execOp a.eval o) w r w' ∧ uponV o a K r w') ∨ (∀ n d, ∃ r w', Loud P (execOp a.eval o) (Gap.wgap w n d) r w' ∧ uponV o a K r w') ∨
  (∃ f args, Quiet P (execOp a.eval o) w (.enter f args) w ∧ CallsG P f args w fun v w' => K (a.put o.dst v) w')
end

section
variable {P : Program} {main : Bool} {Z : Nat → Prop} {Stop : (Nat → Prop) → Goroutine → World → Prop} {b : Frame} {k : List Item} {cs : List Frame} {Q : Exit → Act → World → Prop} {a : Act} {w : World}

theorem AfterW.push {x : Item} {e : Exit} {O : Nat → Prop} {W : World} (hx : x.plain = true) (he : e ≠ .normal) (h : AfterW P main Z Stop b k cs e O a W) : AfterW P main Z Stop b (x :: k) cs e O a W := by
  cases e with
  | normal => exact absurd rfl he
  | exit id => obtain ⟨k', hk, hg⟩ := h; exact ⟨k', by cases x <;> simp_all [exitTo, Item.plain], hg⟩
  | ret => exact h
  | goto l => exact h
  | panic ch => exact h
  | outgrown => exact h

theorem From.mono {todo : Frame → List Item → List Item} {Q' : Exit → Act → World → Prop} (h : From P todo Q a w) (hq : ∀ e a w, Q e a w → Q' e a w) : From P todo Q' a w :=
  fun main Z Stop O W b k cs hb hl hc => h main Z Stop O W b k cs hb hl fun e a' w' O' W' ho hl' q => hc e a' w' O' W' ho hl' (hq _ _ _ q)
theorem gwp_mono {c : Code} {Q' : Exit → Act → World → Prop} (h : gwp P c Q a w) (hq : ∀ e a w, Q e a w → Q' e a w) : gwp P c Q' a w := From.mono h hq
theorem From.ctl {todo todo' : Frame → List Item → List Item} {a' : Act} (h : ∀ (main : Bool) (b : Frame) (k : List Item) (cs : List Frame) (W : World), stepG P main (G (b.at a (todo b k)) cs) W = .go (G (b.at a' (todo' b k)) cs) W) (hk : From P todo' Q a' w) : From P todo Q a w :=
  fun main Z Stop O W b k cs hb hl hc => .ctl rfl (fun W => h main b k cs W) (hk main Z Stop O W b k cs hb hl hc)
theorem From.done (h : Q .normal a w) : From P (fun _ k => k) Q a w := fun _ _ _ O W _ _ _ _ hl hc => hc _ _ _ O W (fun _ h => h) hl h

theorem gwp_skip (h : Q .normal a w) : gwp P .skip Q a w := From.ctl (todo' := fun _ k => k) (fun _ _ _ _ _ => stepG_skip) (.done h)
theorem gwp_ret (h : Q .ret a w) : gwp P .ret Q a w := fun main Z Stop O W b k cs _ hl hc => .ctl rfl (fun _ => stepG_ret') (hc _ _ _ O W (fun _ h => h) hl h _)
theorem gwp_exit {id : Nat} (h : Q (.exit id) a w) : gwp P (.exit id) Q a w := fun main Z Stop O W b k cs _ hl hc => by
  obtain ⟨k', hk', hg⟩ := hc _ _ _ O W (fun _ h => h) hl h
  exact .ctl rfl (fun _ => stepG_exit hk') hg
theorem gwp_seq {x y : Code} (h : gwp P x (Exit.then (gwp P y Q) Q) a w) : gwp P (.seq x y) Q a w := by
  intro main Z Stop O W b k cs hb hl hc
  refine .ctl rfl (fun _ => stepG_seq) (h main Z Stop O W b (.code y :: k) cs hb hl fun e a' w' O' W' ho hl' q => ?_)
  cases e with
  | normal => exact q main Z Stop O' W' b k cs hb hl' fun e a'' w'' O'' W'' ho' hl'' q' => hc e a'' w'' O'' W'' (fun x hx => ho' x (ho x hx)) hl'' q'
  | exit id => exact (hc _ _ _ _ _ ho hl' q).push rfl (by simp)
  | ret => exact (hc _ _ _ _ _ ho hl' q).push (x := .code y) rfl (by simp)
  | goto l => exact (hc _ _ _ _ _ ho hl' q).elim
  | panic ch => exact (hc _ _ _ _ _ ho hl' q).elim
  | outgrown => exact (hc _ _ _ _ _ ho hl' q).elim
theorem gwp_cond {c : Operand} {x y : Code} {t : Bool} (hc : a.eval c = .bool t) (h : gwp P (if t then x else y) Q a w) : gwp P (.cond c x y) Q a w :=
  From.ctl (fun _ _ _ _ _ => stepG_cond hc) h
theorem gwp_cond_split {c : Operand} {x y : Code} {t : Bool} (hc : a.eval c = .bool t) (ht : t = true → gwp P x Q a w) (hf : t = false → gwp P y Q a w) : gwp P (.cond c x y) Q a w := by
  cases t
  · exact gwp_cond hc (hf rfl)
  · exact gwp_cond hc (ht rfl)
theorem gwp_block {id : Nat} {c : Code} (h : gwp P c (Exit.inBlock id Q) a w) : gwp P (.block id c) Q a w := by
  intro main Z Stop O W b k cs hb hl hc
  refine .ctl rfl (fun _ => stepG_block) (h main Z Stop O W b (.inBlock id :: k) cs hb hl fun e a' w' O' W' ho hl' q => ?_)
  cases e with
  | normal => exact .ctl rfl (fun _ => stepG_inBlock) (hc _ _ _ _ _ ho hl' q)
  | exit id' =>
    by_cases hid : id' = id
    · simp only [Exit.inBlock, hid, if_true] at q
      exact ⟨k, by simp [exitTo, hid], hc _ _ _ _ _ ho hl' q⟩
    · simp only [Exit.inBlock, hid, if_false] at q
      obtain ⟨k', hk', hg⟩ := hc _ _ _ _ _ ho hl' q
      have : (id == id') = false := by simp; exact fun h => hid h.symm
      exact ⟨k', by simp [exitTo, this, hk'], hg⟩
  | ret => exact hc _ _ _ _ _ ho hl' q
  | goto l => exact hc _ _ _ _ _ ho hl' q
  | panic ch => exact hc _ _ _ _ _ ho hl' q
  | outgrown => exact hc _ _ _ _ _ ho hl' q
theorem gwp_loop {c : Code} (I : Nat → Act → World → Prop) {n : Nat} (h₀ : I n a w) (round : ∀ n a w, I n a w → gwp P c (Exit.then (fun a' w' => ∃ m, m < n ∧ I m a' w') Q) a w) : gwp P (.loop c) Q a w := by
  intro main Z Stop O W b k cs hb hl hc
  refine .ctl rfl (fun _ => stepG_loop) ?_
  induction n using Nat.strongRecOn generalizing a w O W with
  | _ n ih =>
    refine round n a w h₀ main Z Stop O W b (.inLoop c :: k) cs hb hl fun e a' w' O' W' ho hl' q => ?_
    cases e with
    | normal =>
      obtain ⟨m, hm, hI⟩ := q
      exact .ctl rfl (fun _ => stepG_inLoop) (ih m hm hI O' W' hl' fun e a'' w'' O'' W'' ho' hl'' q' => hc e a'' w'' O'' W'' (fun x hx => ho' x (ho x hx)) hl'' q')
    | exit id => exact (hc _ _ _ _ _ ho hl' q).push rfl (by simp)
    | ret => exact (hc _ _ _ _ _ ho hl' q).push (x := .inLoop c) rfl (by simp)
    | goto l => exact (hc _ _ _ _ _ ho hl' q).elim
    | panic ch => exact (hc _ _ _ _ _ ho hl' q).elim
    | outgrown => exact (hc _ _ _ _ _ ho hl' q).elim

theorem gwp_region {id : Nat} {ops : Array Oper} (h : gops P ops (List.range ops.size) Q a w) : gwp P (.region id ops false) Q a w := From.ctl (fun _ _ _ _ _ => stepG_region) h
theorem gops_nil {ops : Array Oper} (h : Q .normal a w) : gops P ops [] Q a w := From.ctl (todo' := fun _ k => k) (fun _ _ _ _ _ => stepG_region_end) (.done h)
theorem gops_unwanted {ops : Array Oper} {i : Nat} {rest : List Nat} {o : Oper} (ho : ops[i]? = some o) (hw : Region.wanted o (yielded ops a.tmps) = false) (h : gops P ops rest Q (a.put o.dst undef) w) : gops P ops (i :: rest) Q a w :=
  From.ctl (fun _ _ _ _ _ => stepG_unwanted ho hw) h
theorem Does.guar {α : Type} {s : Sem α} {O : Nat → Prop} {W W' : World} {v : α} (h : Does P O Z s W v W') {es : Array Event} (he : ∀ e ∈ es, e ∈ s.events P W #[]) : Guar O Z W W' es :=
  ⟨h.os, h.tape, h.output, h.size, h.keep, fun e x => h.evs e (he e x)⟩
theorem grow_sub {O : Nat → Prop} {W W' : World} (x : Nat) (h : O x) : grow O W W' x := .inl h

theorem stepG_leave' {b : Frame} {fn : Func} {todo : List Item} {c : Frame} {v : Value} {W W' : World} (hn : b.kind = .normal) (hd : a.defers = []) (hf : P.funcs[b.fn]? = some fn) (hr : (results fn a.tmps).run P W = .ok v W') :
    stepG P main (G { b.at a todo with mode := .returning } (c :: cs)) W = .go (G (c.finish v) cs) W' (seen P b.fn ((results fn a.tmps).events P W #[])) := by
  simp [G, stepG, unwind, doReturn, Frame.at, hn, hd, hf, hr, GStep.after]

theorem way_oper {ops : Array Oper} {i : Nat} {rest : List Nat} {o : Oper} {O : Nat → Prop} {W : World} {K : Act → World → Prop} (ho : ops[i]? = some o) (hw : Region.wanted o (yielded ops a.tmps) = true) (hb : b.kind ≠ .early) (hl : Lag O Z w W) (h : gOp P o a w K)
    (hk : ∀ a' w' O' W', (∀ x, O x → O' x) → Lag O' Z w' W' → K a' w' → Way P main Z Stop O' (G (b.at a' (.inRegion ops rest :: k)) cs) W') : Way P main Z Stop O (G (b.at a (.inRegion ops (i :: rest) :: k)) cs) W := by
  have key : ∀ (W1 : World) (r : Next) (w' W' : World), Rely O Z W W1 → Does P O Z (execOp a.eval o) W1 r W' → Lag (grow O W1 W') Z w' W' → uponV o a K r w' →
      ∃ g' W2 es, stepG P main (G (b.at a (.inRegion ops (i :: rest) :: k)) cs) W1 = .go g' W2 es ∧ Guar O Z W1 W2 es ∧ Way P main Z Stop (grow O W1 W2) g' W2 := fun W1 r w' W' _ hD hl' hu => by
    cases r with
    | value v => exact ⟨_, W', _, stepG_value ho hw hb hD.run, hD.guar fun e he => mem_listed he, hk _ _ _ W' (fun x hx => grow_sub x hx) hl' hu⟩
    | skip => exact ⟨_, W', _, stepG_none ho hw hb hD.run, hD.guar fun e he => mem_listed he, hk _ _ _ W' (fun x hx => grow_sub x hx) hl' hu⟩
    | _ => exact hu.elim
  rcases h with ⟨r, w', hq, hu⟩ | h | ⟨f, args, hq, hcall⟩
  · refine .next rfl fun W1 h1 => ?_
    obtain ⟨W', hD, hl', _⟩ := hq O Z W1 (hl.rely h1)
    exact key W1 r w' W' h1 hD hl' hu
  · refine .next rfl fun W1 h1 => ?_
    have hl1 := hl.rely h1
    obtain ⟨r, w', hq, hu⟩ := h (W1.heap.size - w.heap.size) W1.drawn
    obtain ⟨W', hD, hl'⟩ := hq O Z W1 hl1.gap (gap_size hl1.size) rfl
    exact key W1 r w' W' h1 hD hl' hu
  · have hfin : ∀ v, (b.at a (.inRegion ops (i :: rest) :: k)).finish v = b.at (a.put o.dst v) (.inRegion ops rest :: k) := fun v => by rw [Frame.finish_at, ho]; rfl
    rcases hcall.ex with ⟨fn, c, hf, hbody, hwp⟩ | hL
    rotate_left
    · refine .next rfl fun W1 h1 => ?_
      obtain ⟨W', hD, hl', _⟩ := hq O Z W1 (hl.rely h1)
      refine ⟨_, W', _, stepG_enter ho hw hb hD.run, hD.guar fun e he => mem_listed he, ?_⟩
      refine hL main Z Stop _ W' _ cs rfl hl' fun v w' O' W2 ho' hl2 hr => ?_
      rw [hfin]
      exact hk _ _ _ W2 (fun x hx => ho' x (grow_sub x hx)) hl2 hr
    refine .next rfl fun W1 h1 => ?_
    obtain ⟨W', hD, hl', _⟩ := hq O Z W1 (hl.rely h1)
    refine ⟨_, W', _, stepG_enter ho hw hb hD.run, hD.guar fun e he => mem_listed he, ?_⟩
    rw [enter_at args hf hbody]
    have leave : ∀ (a' : Act) (w' : World) (O' : Nat → Prop) (W2 : World) (todo : List Item), (∀ x, O x → O' x) → Lag O' Z w' W2 → (a'.defers = [] ∧ ∃ v, Quiet P (results fn a'.tmps) w' v w' ∧ K (a.put o.dst v) w') →
        Way P main Z Stop O' (G { (base f).at a' todo with mode := .returning } (b.at a (.inRegion ops (i :: rest) :: k) :: cs)) W2 := fun a' w' O' W2 todo ho' hl2 ⟨hd, v, hr, hp⟩ => by
      refine .next rfl fun W3 h3 => ?_
      obtain ⟨W4, hD4, hl4, _⟩ := hr O' Z W3 (hl2.rely h3)
      refine ⟨_, W4, _, stepG_leave' (b := base f) rfl hd hf hD4.run, hD4.guar fun e he => mem_seen he, ?_⟩
      rw [hfin]
      exact hk _ _ _ W4 (fun x hx => grow_sub x (ho' x hx)) hl4 hp
    refine hwp main Z Stop _ W' (base f) [] _ (by simp [base]) hl' fun e a' w' O' W2 ho' hl2 q => ?_
    cases e with
    | normal => exact .ctl rfl (fun _ => stepG_end) (leave a' w' O' W2 [] (fun x hx => ho' x (grow_sub x hx)) hl2 q)
    | ret => exact fun todo => leave a' w' O' W2 todo (fun x hx => ho' x (grow_sub x hx)) hl2 q
    | exit id => exact q.elim
    | goto l => exact q.elim
    | panic ch => exact q.elim
    | outgrown => exact q.elim
theorem gops_cons {ops : Array Oper} {i : Nat} {rest : List Nat} {o : Oper} (ho : ops[i]? = some o) (hw : Region.wanted o (yielded ops a.tmps) = true) (h : gOp P o a w fun a' w' => gops P ops rest Q a' w') : gops P ops (i :: rest) Q a w :=
  fun main Z Stop O W b k cs hb hl hc => way_oper ho hw hb hl h fun a' w' O' W' ho' hl' hg => hg main Z Stop O' W' b k cs hb hl' fun e a'' w'' O'' W'' ho'' hl'' q' => hc e a'' w'' O'' W'' (fun x hx => ho'' x (ho' x hx)) hl'' q'

theorem Lag.drew {O : Nat → Prop} {W : World} (h : Lag O Z w W) : Lag O Z { w with drawn := w.drawn + 1 } { W with drawn := W.drawn + 1 } := ⟨h.os, h.tape, h.output, h.size, h.own, h.rest, h.flat⟩
theorem gwp_region_draw {id : Nat} {ops : Array Oper} (h : ∀ t, gops P ops (Region.schedule (P.follows .mixedOrders) ops t) Q a { w with drawn := w.drawn + 1 }) : gwp P (.region id ops true) Q a w := by
  intro main Z Stop O W b k cs hb hl hc
  refine .next rfl fun W1 h1 => ⟨_, _, _, stepG_region_draw, ⟨rfl, rfl, rfl, Nat.le_refl _, fun _ _ _ => rfl, by simp⟩, ?_⟩
  rw [grow_same (by rfl)]
  exact h _ main Z Stop O _ b k cs hb (hl.rely h1).drew hc
def gOpAt (P : Program) (ops : Array Oper) (i : Nat) (K : Act → World → Prop) (a : Act) (w : World) : Prop :=
  match ops[i]? with
  | none => False
  | some o => if Region.wanted o (yielded ops a.tmps) then gOp P o a w K else K (a.put o.dst undef) w
theorem uponV_mono {o : Oper} {K K' : Act → World → Prop} (h : ∀ a w, K a w → K' a w) {r : Next} (hh : uponV o a K r w) : uponV o a K' r w := by
  cases r <;> first | exact h _ _ hh | exact hh
theorem CallsG.mono {f : FuncId} {args : Array Value} {R R' : Value → World → Prop} (h : CallsG P f args w R) (hr : ∀ v w, R v w → R' v w) : CallsG P f args w R' := by
  rcases h.ex with ⟨fn, c, hf, hb, hw⟩ | hL
  rotate_left
  · exact ⟨.inr fun main Z Stop O W c cs hm hl hk => hL main Z Stop O W c cs hm hl fun v w' O' W' ho hl' q => hk v w' O' W' ho hl' (hr v w' q)⟩
  refine ⟨.inl ⟨fn, c, hf, hb, gwp_mono hw fun e a w q => ?_⟩⟩
  cases e <;> first | exact ⟨q.1, q.2.choose, q.2.choose_spec.1, hr _ _ q.2.choose_spec.2⟩ | exact q
theorem gOp_mono {o : Oper} {K K' : Act → World → Prop} (h : ∀ a w, K a w → K' a w) (hh : gOp P o a w K) : gOp P o a w K' := by
  rcases hh with ⟨r, w', h1, h2⟩ | hh | ⟨f, args, h1, h2⟩
  · exact .inl ⟨r, w', h1, uponV_mono h h2⟩
  · exact .inr (.inl fun n d => let ⟨r, w', h1, h2⟩ := hh n d; ⟨r, w', h1, uponV_mono h h2⟩)
  · exact .inr (.inr ⟨f, args, h1, h2.mono fun v w' => h _ _⟩)
theorem gOpAt_mono {ops : Array Oper} {i : Nat} {K K' : Act → World → Prop} (h : ∀ a w, K a w → K' a w) (hh : gOpAt P ops i K a w) : gOpAt P ops i K' a w := by
  unfold gOpAt at *
  split
  · simp_all
  · rename_i o ho
    simp only [ho] at hh
    split
    · rename_i hw; simp only [hw, if_true] at hh; exact gOp_mono h hh
    · rename_i hw; simp only [hw] at hh; exact h _ _ hh
theorem gops_of_at {ops : Array Oper} {i : Nat} {rest : List Nat} (h : gOpAt P ops i (fun a' w' => gops P ops rest Q a' w') a w) : gops P ops (i :: rest) Q a w := by
  unfold gOpAt at h
  split at h
  · exact h.elim
  · rename_i o ho
    split at h
    · rename_i hw; exact gops_cons ho hw h
    · rename_i hw; exact gops_unwanted ho (by simpa using hw) h
def YieldsG (P : Program) (ops : Array Oper) (S : World → Prop) (o : Oper) (v : Value) (a : Act) : Prop :=
  (Region.wanted o (yielded ops a.tmps) = true ∧ ∀ w, S w → Quiet P (execOp a.eval o) w (.value v) w) ∨ (Region.wanted o (yielded ops a.tmps) = false ∧ v = undef)
theorem YieldsG.of_same {ops : Array Oper} {S : World → Prop} {o : Oper} {v : Value} {a' : Act} (hy : YieldsG P ops S o v a) (he : execOp a'.eval o = execOp a.eval o) (hw : Region.wanted o (yielded ops a'.tmps) = Region.wanted o (yielded ops a.tmps)) : YieldsG P ops S o v a' := by
  unfold YieldsG at *
  rw [he, hw]
  exact hy
theorem YieldsG.at_ {ops : Array Oper} {S : World → Prop} {i : Nat} {o : Oper} {v : Value} (hi : ops[i]? = some o) (hy : YieldsG P ops S o v a) {K : Act → World → Prop} (hS : S w) (h : K (a.put o.dst v) w) : gOpAt P ops i K a w := by
  unfold gOpAt
  simp only [hi]
  rcases hy with ⟨hw, hv⟩ | ⟨hw, rfl⟩
  · simp only [hw, if_true]; exact .inl ⟨_, w, hv w hS, h⟩
  · simp only [hw, Bool.false_eq_true, if_false]; exact h
def AnyG (P : Program) (ops : Array Oper) (Q : Exit → Act → World → Prop) (S : World → Prop) : Nat → Array Bool → Act → World → Prop
  | 0, listed, a, w => Region.ready .any ops listed = [] ∧ Q .normal a w
  | fuel + 1, listed, a, w => (Region.ready .any ops listed = [] → Q .normal a w) ∧ ∀ i ∈ Region.ready .any ops listed, gOpAt P ops i (fun a' w' => S w' ∧ AnyG P ops Q S fuel (listed.setIfInBounds i true) a' w') a w
theorem anyG_sound {ops : Array Oper} {S : World → Prop} : ∀ (fuel t : Nat) (listed : Array Bool) (a : Act) (w : World), AnyG P ops Q S fuel listed a w → gops P ops (Region.linearise.go .any ops fuel t listed []) Q a w := by
  intro fuel
  induction fuel with
  | zero => intro t listed a w h; simpa [Region.linearise.go] using gops_nil h.2
  | succ fuel ih =>
    intro t listed a w h
    obtain ⟨h₀, h₁⟩ := h
    simp only [Region.linearise.go]
    change gops P ops (match (Region.ready .any ops listed)[t % (Region.ready .any ops listed).length]? with
      | some i => Region.linearise.go .any ops fuel (t / (Region.ready .any ops listed).length) (listed.setIfInBounds i true) [i]
      | none => [].reverse) Q a w
    cases hi : (Region.ready .any ops listed)[t % (Region.ready .any ops listed).length]? with
    | none =>
      have hnil : Region.ready .any ops listed = [] := by
        cases hr : Region.ready .any ops listed with
        | nil => rfl
        | cons x xs =>
          rw [hr] at hi
          have hlt : t % (x :: xs).length < (x :: xs).length := Nat.mod_lt _ (by simp)
          simp at hi
          simp at hlt
          omega
      simpa using gops_nil (h₀ hnil)
    | some i =>
      simp only []
      rw [linearise_go_acc, List.reverse_singleton, List.singleton_append]
      exact gops_of_at (gOpAt_mono (fun a' w' x => ih _ _ a' w' x.2) (h₁ i (List.mem_of_getElem? hi)))
theorem gOpAt_put {ops : Array Oper} {S : World → Prop} {j : Nat} {oi oj : Oper} {v : Value} (hj : ops[j]? = some oj) (hap : oi.apart ops oj = true) (hsi : ∀ cs b, oi.op ≠ .select cs b) (hsj : ∀ cs b, oj.op ≠ .select cs b) {K : Act → World → Prop}
    (hy : YieldsG P ops S oi v a) (h : gOpAt P ops j K (a.put oi.dst v) w) : gOpAt P ops j (fun a' w' => YieldsG P ops S oi v a' ∧ K (a'.put oi.dst v) w') a w := by
  obtain ⟨h1, h2, h3⟩ := Oper.apart_spec hap
  have keep : ∀ (a : Act), YieldsG P ops S oi v a → ∀ u, YieldsG P ops S oi v (a.put oj.dst u) := fun a hy u => hy.of_same (execOp_put oi hsi a oj.dst u h3) (wanted_put oi a oj.dst u h3)
  have up : ∀ (r : Next) (w : World), uponV oj (a.put oi.dst v) K r w → uponV oj a (fun a' w' => YieldsG P ops S oi v a' ∧ K (a'.put oi.dst v) w') r w := fun r w h => by
    cases r <;> simp only [uponV] at h ⊢
    · exact ⟨keep a hy _, by rw [← Act.put_comm a v _ h2]; exact h⟩
    · exact ⟨keep a hy _, by rw [← Act.put_comm a v _ h2]; exact h⟩
  unfold gOpAt at *
  simp only [hj] at *
  rw [wanted_put oj a oi.dst v h1] at h
  split
  · rename_i hw
    simp only [hw, if_true] at h
    unfold gOp at *
    rw [execOp_put oj hsj a oi.dst v h1] at h
    rcases h with ⟨r, w', g1, g2⟩ | h | ⟨f, args, g1, g2⟩
    · exact .inl ⟨r, w', g1, up _ _ g2⟩
    · exact .inr (.inl fun n d => let ⟨r, w', g1, g2⟩ := h n d; ⟨r, w', g1, up _ _ g2⟩)
    · exact .inr (.inr ⟨f, args, g1, g2.mono fun u w' h => ⟨keep a hy _, by rw [← Act.put_comm a v _ h2]; exact h⟩⟩)
  · rename_i hw
    simp only [hw] at h
    exact ⟨keep a hy _, by rw [← Act.put_comm a v undef h2]; exact h⟩
theorem anyG_first {ops : Array Oper} {S : World → Prop} {i : Nat} {oi : Oper} {v : Value} (hi : ops[i]? = some oi) (hsel : ∀ (j : Nat) (o : Oper) cs b, ops[j]? = some o → o.op ≠ .select cs b) :
    ∀ (fuel : Nat) (listed : Array Bool) (a : Act) (w : World), (∀ j oj, ops[j]? = some oj → j ≠ i → listed.getD j true = false → (∀ e ∈ oj.after, Region.binds .any e = true → e.on ≠ i) → oi.apart ops oj = true) →
      i ∈ Region.ready .any ops listed → YieldsG P ops S oi v a → S w → AnyG P ops Q S fuel (listed.setIfInBounds i true) (a.put oi.dst v) w → AnyG P ops Q S (fuel + 1) listed a w := by
  intro fuel
  induction fuel with
  | zero =>
    intro listed a w _ hr hy hS H
    refine ⟨fun h => (by rw [h] at hr; cases hr), fun j hj => ?_⟩
    by_cases hji : j = i
    · subst hji; exact hy.at_ hi hS ⟨hS, H⟩
    · have := ready_mono hj hji
      rw [H.1] at this
      cases this
  | succ fuel ih =>
    intro listed a w hfree hr hy hS H
    refine ⟨fun h => (by rw [h] at hr; cases hr), fun j hj => ?_⟩
    by_cases hji : j = i
    · subst hji; exact hy.at_ hi hS ⟨hS, H⟩
    · have h1 := H.2 j (ready_mono hj hji)
      obtain ⟨hjun, oj, hoj, hall⟩ := mem_ready.1 hj
      have hnot : ∀ e ∈ oj.after, Region.binds .any e = true → e.on ≠ i := fun e he hb heq => by
        have h1 := hall e he hb
        have h0 := (mem_ready.1 hr).1
        rw [heq] at h1
        rcases Nat.lt_or_ge i listed.size with h' | h'
        · simp [h'] at h0 h1; rw [h0] at h1; cases h1
        · simp [Array.getElem?_eq_none h'] at h1
      have h2 := gOpAt_put hoj (hfree j oj hoj hji hjun hnot) (fun cs b => hsel i oi cs b hi) (fun cs b => hsel j oj cs b hoj) hy h1
      have hfree' : ∀ k ok, ops[k]? = some ok → k ≠ i → (listed.setIfInBounds j true).getD k true = false →
          (∀ e ∈ ok.after, Region.binds .any e = true → e.on ≠ i) → oi.apart ops ok = true := fun k ok hk hki hun hno => by
        refine hfree k ok hk hki ?_ hno
        by_cases hjk : j = k
        · subst hjk; exact hjun
        · rw [getD_set_ne true hjk] at hun; exact hun
      refine gOpAt_mono (fun a' w' h3 => ⟨h3.2.1, ih (listed.setIfInBounds j true) a' w' hfree' (ready_mono hr (Ne.symm hji)) h3.1 h3.2.1 ?_⟩) h2
      rw [Array.setIfInBounds_comm _ _ hji]
      exact h3.2.2
theorem anyG_take {ops : Array Oper} {S : World → Prop} {i : Nat} {oi : Oper} {v : Value} {fuel : Nat} {listed : Array Bool} (hi : ops[i]? = some oi) (hs : Region.noSelect ops = true) (hf : Region.free .any ops listed i = true) (hr : (Region.ready .any ops listed).contains i = true)
    (hy : YieldsG P ops S oi v a) (hS : S w) (h : AnyG P ops Q S fuel (listed.setIfInBounds i true) (a.put oi.dst v) w) : AnyG P ops Q S (fuel + 1) listed a w :=
  anyG_first hi (Region.noSelect_spec hs) fuel listed a w (Region.free_spec hi hf) (by simpa using hr) hy hS h
theorem anyG_all {ops : Array Oper} {S : World → Prop} {rs : List Nat} {fuel : Nat} {listed : Array Bool} (hr : Region.ready .any ops listed = rs) (hne : rs ≠ []) (h : ∀ i ∈ rs, gOpAt P ops i (fun a' w' => S w' ∧ AnyG P ops Q S fuel (listed.setIfInBounds i true) a' w') a w) : AnyG P ops Q S (fuel + 1) listed a w :=
  ⟨fun h0 => absurd (hr ▸ h0) hne, hr ▸ h⟩
theorem gwp_region_held {ops : Array Oper} {S : World → Prop} {id : Nat} (hm : P.follows .mixedOrders = true) (h : AnyG P ops Q S ops.size (Array.replicate ops.size false) a { w with drawn := w.drawn + 1 }) : gwp P (.region id ops true) Q a w :=
  gwp_region_draw fun t => by
    simp only [Region.schedule, hm, Bool.true_or, if_true]
    exact anyG_sound ops.size t _ a _ h
end
end Go.Proofs.YtgcbcagaibecbaaGreatDoor.Gap

namespace Go.Proofs.YtgcbcagaibecbaaGreatDoor.Gap
set_option maxRecDepth 20000
open Go Go.Conc
variable [Go.Proofs.YtgcbcagaibecbaaGreatDoor.Gap.Leaps]

section
variable {P : Program}
theorem plain_size_of {t : TypeId} {β : Type} {f : Nat → Sem β} (h : (P.info? t).isSome = true) (hf : Plain P (f (P.cellsOf t))) : Plain P (sizeOf t >>= f) := by
  obtain ⟨i, hi⟩ := Option.isSome_iff_exists.1 h
  have e : P.cellsOf t = i.size := by simp [Program.cellsOf, hi]
  rw [e] at hf
  show Plain P ((do pure (← typeInfo t).size : Sem Nat) >>= f)
  unfold typeInfo
  show Plain P (((match P.info? t with | some i => pure i | none => stuck "no such type") >>= fun i => pure i.size) >>= f)
  rw [hi]
  exact hf
theorem plain_asIntOf (v : Value) : Plain P (asIntOf v) := by
  unfold asIntOf
  split <;> trivial
theorem plain_sureAddr (v : Value) : Plain P (Instr.sureAddr v) := by
  unfold Instr.sureAddr
  split <;> trivial
theorem plain_asAgg (v : Value) : Plain P (asAgg v) := by
  unfold asAgg
  split <;> trivial
theorem plain_loadAt (t : TypeId) (v : Value) : Plain P (Instr.loadAt t v) := plain_bind (plain_sureAddr v) fun a => plain_loadVar t a
theorem plain_storeAt (t : TypeId) (a v : Value) : Plain P (Instr.storeAt t a v) := plain_bind (plain_sureAddr a) fun a => plain_storeVar t a v
theorem plain_indexAt (t : TypeId) (x i : Value) : Plain P (Instr.indexAt t x i) := by
  unfold Instr.indexAt
  (repeat' first | with_reducible exact plain_under _ | with_reducible exact plain_size _ | with_reducible exact plain_agg _ | with_reducible exact plain_zero _ | with_reducible exact plain_info _ | with_reducible exact plain_asIntOf _ | with_reducible exact plain_asInt _ | with_reducible exact plain_asAgg _ | with_reducible exact plain_asAddr _ | with_reducible exact plain_asBool _ | with_reducible exact plain_sureAddr _ | with_reducible exact plain_bounds _ _ _ _ | with_reducible exact plain_panic _ | with_reducible exact plain_part _ _ _ | with_reducible exact plain_loadCells _ _ | with_reducible exact plain_storeCells _ _ _ | with_reducible exact plain_loadVar _ _ | with_reducible exact plain_storeVar _ _ _ | with_reducible exact plain_choose _ | with_reducible exact plain_askRoom _ | with_reducible exact plain_newRow _ _ | with_reducible exact plain_newVar _ _ | with_reducible exact plain_elemOf _ | with_reducible exact plain_load _ | with_reducible exact plain_store _ _ | with_reducible exact plain_stuck _ | with_reducible exact plain_unsupported _ | with_reducible exact plain_pure _ | with_reducible refine plain_bind ?_ fun _ => ?_ | with_reducible refine plain_map ?_ | with_reducible refine plain_ite ?_ ?_ | split | exact trivial | dsimp only)
theorem plain_index (t : TypeId) (x i : Value) : Plain P (Instr.index t x i) := by
  unfold Instr.index
  (repeat' first | with_reducible exact plain_under _ | with_reducible exact plain_size _ | with_reducible exact plain_agg _ | with_reducible exact plain_zero _ | with_reducible exact plain_info _ | with_reducible exact plain_asIntOf _ | with_reducible exact plain_asInt _ | with_reducible exact plain_asAgg _ | with_reducible exact plain_asAddr _ | with_reducible exact plain_asBool _ | with_reducible exact plain_sureAddr _ | with_reducible exact plain_bounds _ _ _ _ | with_reducible exact plain_panic _ | with_reducible exact plain_part _ _ _ | with_reducible exact plain_loadCells _ _ | with_reducible exact plain_storeCells _ _ _ | with_reducible exact plain_loadVar _ _ | with_reducible exact plain_storeVar _ _ _ | with_reducible exact plain_choose _ | with_reducible exact plain_askRoom _ | with_reducible exact plain_newRow _ _ | with_reducible exact plain_newVar _ _ | with_reducible exact plain_elemOf _ | with_reducible exact plain_load _ | with_reducible exact plain_store _ _ | with_reducible exact plain_stuck _ | with_reducible exact plain_unsupported _ | with_reducible exact plain_pure _ | with_reducible refine plain_bind ?_ fun _ => ?_ | with_reducible refine plain_map ?_ | with_reducible refine plain_ite ?_ ?_ | split | exact trivial | dsimp only)
theorem plain_sliceBound (x : Value) (y : Nat) (c : BoundsCode) : Plain P (Instr.sliceBound x y c) := by
  unfold Instr.sliceBound
  (repeat' first | with_reducible exact plain_under _ | with_reducible exact plain_size _ | with_reducible exact plain_agg _ | with_reducible exact plain_zero _ | with_reducible exact plain_info _ | with_reducible exact plain_asIntOf _ | with_reducible exact plain_asInt _ | with_reducible exact plain_asAgg _ | with_reducible exact plain_asAddr _ | with_reducible exact plain_asBool _ | with_reducible exact plain_sureAddr _ | with_reducible exact plain_bounds _ _ _ _ | with_reducible exact plain_panic _ | with_reducible exact plain_part _ _ _ | with_reducible exact plain_loadCells _ _ | with_reducible exact plain_storeCells _ _ _ | with_reducible exact plain_loadVar _ _ | with_reducible exact plain_storeVar _ _ _ | with_reducible exact plain_choose _ | with_reducible exact plain_askRoom _ | with_reducible exact plain_newRow _ _ | with_reducible exact plain_newVar _ _ | with_reducible exact plain_elemOf _ | with_reducible exact plain_load _ | with_reducible exact plain_store _ _ | with_reducible exact plain_stuck _ | with_reducible exact plain_unsupported _ | with_reducible exact plain_pure _ | with_reducible refine plain_bind ?_ fun _ => ?_ | with_reducible refine plain_map ?_ | with_reducible refine plain_ite ?_ ?_ | split | exact trivial | dsimp only)
theorem plain_sliceBounds (b : Bool) (l c : Nat) (x y z : Option Value) : Plain P (Instr.sliceBounds b l c x y z) := by
  unfold Instr.sliceBounds
  (repeat' first | with_reducible exact plain_sliceBound _ _ _ | with_reducible exact plain_under _ | with_reducible exact plain_size _ | with_reducible exact plain_agg _ | with_reducible exact plain_zero _ | with_reducible exact plain_info _ | with_reducible exact plain_asIntOf _ | with_reducible exact plain_asInt _ | with_reducible exact plain_asAgg _ | with_reducible exact plain_asAddr _ | with_reducible exact plain_asBool _ | with_reducible exact plain_sureAddr _ | with_reducible exact plain_bounds _ _ _ _ | with_reducible exact plain_panic _ | with_reducible exact plain_part _ _ _ | with_reducible exact plain_loadCells _ _ | with_reducible exact plain_storeCells _ _ _ | with_reducible exact plain_loadVar _ _ | with_reducible exact plain_storeVar _ _ _ | with_reducible exact plain_choose _ | with_reducible exact plain_askRoom _ | with_reducible exact plain_newRow _ _ | with_reducible exact plain_newVar _ _ | with_reducible exact plain_elemOf _ | with_reducible exact plain_load _ | with_reducible exact plain_store _ _ | with_reducible exact plain_stuck _ | with_reducible exact plain_unsupported _ | with_reducible exact plain_pure _ | with_reducible refine plain_bind ?_ fun _ => ?_ | with_reducible refine plain_map ?_ | with_reducible refine plain_ite ?_ ?_ | split | exact trivial | dsimp only)
theorem plain_slice (t : TypeId) (x : Value) (l h m : Option Value) : Plain P (Instr.slice t x l h m) := by
  unfold Instr.slice
  (repeat' first | with_reducible exact plain_sliceBounds _ _ _ _ _ _ | with_reducible exact plain_under _ | with_reducible exact plain_size _ | with_reducible exact plain_agg _ | with_reducible exact plain_zero _ | with_reducible exact plain_info _ | with_reducible exact plain_asIntOf _ | with_reducible exact plain_asInt _ | with_reducible exact plain_asAgg _ | with_reducible exact plain_asAddr _ | with_reducible exact plain_asBool _ | with_reducible exact plain_sureAddr _ | with_reducible exact plain_bounds _ _ _ _ | with_reducible exact plain_panic _ | with_reducible exact plain_part _ _ _ | with_reducible exact plain_loadCells _ _ | with_reducible exact plain_storeCells _ _ _ | with_reducible exact plain_loadVar _ _ | with_reducible exact plain_storeVar _ _ _ | with_reducible exact plain_choose _ | with_reducible exact plain_askRoom _ | with_reducible exact plain_newRow _ _ | with_reducible exact plain_newVar _ _ | with_reducible exact plain_elemOf _ | with_reducible exact plain_load _ | with_reducible exact plain_store _ _ | with_reducible exact plain_stuck _ | with_reducible exact plain_unsupported _ | with_reducible exact plain_pure _ | with_reducible refine plain_bind ?_ fun _ => ?_ | with_reducible refine plain_map ?_ | with_reducible refine plain_ite ?_ ?_ | split | exact trivial | dsimp only)
theorem plain_sliceAt (t : TypeId) (x : Value) (l h m : Option Value) : Plain P (Instr.sliceAt t x l h m) := by
  unfold Instr.sliceAt
  (repeat' first | with_reducible exact plain_sliceBounds _ _ _ _ _ _ | with_reducible exact plain_slice _ _ _ _ _ | with_reducible exact plain_under _ | with_reducible exact plain_size _ | with_reducible exact plain_agg _ | with_reducible exact plain_zero _ | with_reducible exact plain_info _ | with_reducible exact plain_asIntOf _ | with_reducible exact plain_asInt _ | with_reducible exact plain_asAgg _ | with_reducible exact plain_asAddr _ | with_reducible exact plain_asBool _ | with_reducible exact plain_sureAddr _ | with_reducible exact plain_bounds _ _ _ _ | with_reducible exact plain_panic _ | with_reducible exact plain_part _ _ _ | with_reducible exact plain_loadCells _ _ | with_reducible exact plain_storeCells _ _ _ | with_reducible exact plain_loadVar _ _ | with_reducible exact plain_storeVar _ _ _ | with_reducible exact plain_choose _ | with_reducible exact plain_askRoom _ | with_reducible exact plain_newRow _ _ | with_reducible exact plain_newVar _ _ | with_reducible exact plain_elemOf _ | with_reducible exact plain_load _ | with_reducible exact plain_store _ _ | with_reducible exact plain_stuck _ | with_reducible exact plain_unsupported _ | with_reducible exact plain_pure _ | with_reducible refine plain_bind ?_ fun _ => ?_ | with_reducible refine plain_map ?_ | with_reducible refine plain_ite ?_ ?_ | split | exact trivial | dsimp only)
theorem plain_field (t : TypeId) (x : Value) (f : Nat) : Plain P (Instr.field t x f) := by
  unfold Instr.field
  (repeat' first | with_reducible exact plain_under _ | with_reducible exact plain_size _ | with_reducible exact plain_agg _ | with_reducible exact plain_zero _ | with_reducible exact plain_info _ | with_reducible exact plain_asIntOf _ | with_reducible exact plain_asInt _ | with_reducible exact plain_asAgg _ | with_reducible exact plain_asAddr _ | with_reducible exact plain_asBool _ | with_reducible exact plain_sureAddr _ | with_reducible exact plain_bounds _ _ _ _ | with_reducible exact plain_panic _ | with_reducible exact plain_part _ _ _ | with_reducible exact plain_loadCells _ _ | with_reducible exact plain_storeCells _ _ _ | with_reducible exact plain_loadVar _ _ | with_reducible exact plain_storeVar _ _ _ | with_reducible exact plain_choose _ | with_reducible exact plain_askRoom _ | with_reducible exact plain_newRow _ _ | with_reducible exact plain_newVar _ _ | with_reducible exact plain_elemOf _ | with_reducible exact plain_load _ | with_reducible exact plain_store _ _ | with_reducible exact plain_stuck _ | with_reducible exact plain_unsupported _ | with_reducible exact plain_pure _ | with_reducible refine plain_bind ?_ fun _ => ?_ | with_reducible refine plain_map ?_ | with_reducible refine plain_ite ?_ ?_ | split | exact trivial | dsimp only)
theorem plain_makeInterface (t : TypeId) (x : Value) : Plain P (Instr.makeInterface t x) := by
  unfold Instr.makeInterface
  (repeat' first | with_reducible exact plain_under _ | with_reducible exact plain_size _ | with_reducible exact plain_agg _ | with_reducible exact plain_zero _ | with_reducible exact plain_info _ | with_reducible exact plain_asIntOf _ | with_reducible exact plain_asInt _ | with_reducible exact plain_asAgg _ | with_reducible exact plain_asAddr _ | with_reducible exact plain_asBool _ | with_reducible exact plain_sureAddr _ | with_reducible exact plain_bounds _ _ _ _ | with_reducible exact plain_panic _ | with_reducible exact plain_part _ _ _ | with_reducible exact plain_loadCells _ _ | with_reducible exact plain_storeCells _ _ _ | with_reducible exact plain_loadVar _ _ | with_reducible exact plain_storeVar _ _ _ | with_reducible exact plain_choose _ | with_reducible exact plain_askRoom _ | with_reducible exact plain_newRow _ _ | with_reducible exact plain_newVar _ _ | with_reducible exact plain_elemOf _ | with_reducible exact plain_load _ | with_reducible exact plain_store _ _ | with_reducible exact plain_stuck _ | with_reducible exact plain_unsupported _ | with_reducible exact plain_pure _ | with_reducible refine plain_bind ?_ fun _ => ?_ | with_reducible refine plain_map ?_ | with_reducible refine plain_ite ?_ ?_ | split | exact trivial | dsimp only)
theorem plain_build (t : TypeId) (ps : Array (Nat × Value)) : Plain P (Instr.build t ps) := by
  unfold Instr.build
  (repeat' first | with_reducible refine plain_arrM (fun _ => ?_) _ | with_reducible exact plain_under _ | with_reducible exact plain_size _ | with_reducible exact plain_agg _ | with_reducible exact plain_zero _ | with_reducible exact plain_info _ | with_reducible exact plain_asIntOf _ | with_reducible exact plain_asInt _ | with_reducible exact plain_asAgg _ | with_reducible exact plain_asAddr _ | with_reducible exact plain_asBool _ | with_reducible exact plain_sureAddr _ | with_reducible exact plain_bounds _ _ _ _ | with_reducible exact plain_panic _ | with_reducible exact plain_part _ _ _ | with_reducible exact plain_loadCells _ _ | with_reducible exact plain_storeCells _ _ _ | with_reducible exact plain_loadVar _ _ | with_reducible exact plain_storeVar _ _ _ | with_reducible exact plain_choose _ | with_reducible exact plain_askRoom _ | with_reducible exact plain_newRow _ _ | with_reducible exact plain_newVar _ _ | with_reducible exact plain_elemOf _ | with_reducible exact plain_load _ | with_reducible exact plain_store _ _ | with_reducible exact plain_stuck _ | with_reducible exact plain_unsupported _ | with_reducible exact plain_pure _ | with_reducible refine plain_bind ?_ fun _ => ?_ | with_reducible refine plain_map ?_ | with_reducible refine plain_ite ?_ ?_ | split | exact trivial | dsimp only)
theorem plain_buildSlice (t : TypeId) (n : Nat) (ps : Array (Nat × Value)) : Plain P (Instr.buildSlice t n ps) := by
  unfold Instr.buildSlice
  (repeat' first | with_reducible exact plain_under _ | with_reducible exact plain_size _ | with_reducible exact plain_agg _ | with_reducible exact plain_zero _ | with_reducible exact plain_info _ | with_reducible exact plain_asIntOf _ | with_reducible exact plain_asInt _ | with_reducible exact plain_asAgg _ | with_reducible exact plain_asAddr _ | with_reducible exact plain_asBool _ | with_reducible exact plain_sureAddr _ | with_reducible exact plain_bounds _ _ _ _ | with_reducible exact plain_panic _ | with_reducible exact plain_part _ _ _ | with_reducible exact plain_loadCells _ _ | with_reducible exact plain_storeCells _ _ _ | with_reducible exact plain_loadVar _ _ | with_reducible exact plain_storeVar _ _ _ | with_reducible exact plain_choose _ | with_reducible exact plain_askRoom _ | with_reducible exact plain_newRow _ _ | with_reducible exact plain_newVar _ _ | with_reducible exact plain_elemOf _ | with_reducible exact plain_load _ | with_reducible exact plain_store _ _ | with_reducible exact plain_stuck _ | with_reducible exact plain_unsupported _ | with_reducible exact plain_pure _ | with_reducible refine plain_bind ?_ fun _ => ?_ | with_reducible refine plain_map ?_ | with_reducible refine plain_ite ?_ ?_ | split | exact trivial | dsimp only)
theorem plain_makeSlice (t : TypeId) (l c : Value) : Plain P (Instr.makeSlice t l c) := by
  unfold Instr.makeSlice
  (repeat' first | with_reducible exact plain_under _ | with_reducible exact plain_size _ | with_reducible exact plain_agg _ | with_reducible exact plain_zero _ | with_reducible exact plain_info _ | with_reducible exact plain_asIntOf _ | with_reducible exact plain_asInt _ | with_reducible exact plain_asAgg _ | with_reducible exact plain_asAddr _ | with_reducible exact plain_asBool _ | with_reducible exact plain_sureAddr _ | with_reducible exact plain_bounds _ _ _ _ | with_reducible exact plain_panic _ | with_reducible exact plain_part _ _ _ | with_reducible exact plain_loadCells _ _ | with_reducible exact plain_storeCells _ _ _ | with_reducible exact plain_loadVar _ _ | with_reducible exact plain_storeVar _ _ _ | with_reducible exact plain_choose _ | with_reducible exact plain_askRoom _ | with_reducible exact plain_newRow _ _ | with_reducible exact plain_newVar _ _ | with_reducible exact plain_elemOf _ | with_reducible exact plain_load _ | with_reducible exact plain_store _ _ | with_reducible exact plain_stuck _ | with_reducible exact plain_unsupported _ | with_reducible exact plain_pure _ | with_reducible refine plain_bind ?_ fun _ => ?_ | with_reducible refine plain_map ?_ | with_reducible refine plain_ite ?_ ?_ | split | exact trivial | dsimp only)
theorem plain_extract (x : Value) (i : Nat) : Plain P (Instr.extract x i) := by
  unfold Instr.extract
  (repeat' first | with_reducible exact plain_under _ | with_reducible exact plain_size _ | with_reducible exact plain_agg _ | with_reducible exact plain_zero _ | with_reducible exact plain_info _ | with_reducible exact plain_asIntOf _ | with_reducible exact plain_asInt _ | with_reducible exact plain_asAgg _ | with_reducible exact plain_asAddr _ | with_reducible exact plain_asBool _ | with_reducible exact plain_sureAddr _ | with_reducible exact plain_bounds _ _ _ _ | with_reducible exact plain_panic _ | with_reducible exact plain_part _ _ _ | with_reducible exact plain_loadCells _ _ | with_reducible exact plain_storeCells _ _ _ | with_reducible exact plain_loadVar _ _ | with_reducible exact plain_storeVar _ _ _ | with_reducible exact plain_choose _ | with_reducible exact plain_askRoom _ | with_reducible exact plain_newRow _ _ | with_reducible exact plain_newVar _ _ | with_reducible exact plain_elemOf _ | with_reducible exact plain_load _ | with_reducible exact plain_store _ _ | with_reducible exact plain_stuck _ | with_reducible exact plain_unsupported _ | with_reducible exact plain_pure _ | with_reducible refine plain_bind ?_ fun _ => ?_ | with_reducible refine plain_map ?_ | with_reducible refine plain_ite ?_ ?_ | split | exact trivial | dsimp only)
theorem plain_alloc (t : TypeId) (h : Bool) (v : Value) : Plain P (Instr.alloc t h v) := by
  unfold Instr.alloc
  (repeat' first | with_reducible exact plain_under _ | with_reducible exact plain_size _ | with_reducible exact plain_agg _ | with_reducible exact plain_zero _ | with_reducible exact plain_info _ | with_reducible exact plain_asIntOf _ | with_reducible exact plain_asInt _ | with_reducible exact plain_asAgg _ | with_reducible exact plain_asAddr _ | with_reducible exact plain_asBool _ | with_reducible exact plain_sureAddr _ | with_reducible exact plain_bounds _ _ _ _ | with_reducible exact plain_panic _ | with_reducible exact plain_part _ _ _ | with_reducible exact plain_loadCells _ _ | with_reducible exact plain_storeCells _ _ _ | with_reducible exact plain_loadVar _ _ | with_reducible exact plain_storeVar _ _ _ | with_reducible exact plain_choose _ | with_reducible exact plain_askRoom _ | with_reducible exact plain_newRow _ _ | with_reducible exact plain_newVar _ _ | with_reducible exact plain_elemOf _ | with_reducible exact plain_load _ | with_reducible exact plain_store _ _ | with_reducible exact plain_stuck _ | with_reducible exact plain_unsupported _ | with_reducible exact plain_pure _ | with_reducible refine plain_bind ?_ fun _ => ?_ | with_reducible refine plain_map ?_ | with_reducible refine plain_ite ?_ ?_ | split | exact trivial | dsimp only)
theorem plain_box (t : TypeId) (v : Value) : Plain P (Instr.box t v) := plain_bind (plain_newVar _ _) fun _ => trivial
theorem plain_len (ts : Array TypeId) (t : TypeId) (av : Array Value) : Plain P (Builtin.len_ ts t av) := by
  unfold Builtin.len_
  (repeat' first | refine plain_getObj _ fun _ _ => ?_ | with_reducible exact plain_under _ | with_reducible exact plain_size _ | with_reducible exact plain_agg _ | with_reducible exact plain_zero _ | with_reducible exact plain_info _ | with_reducible exact plain_asIntOf _ | with_reducible exact plain_asInt _ | with_reducible exact plain_asAgg _ | with_reducible exact plain_asAddr _ | with_reducible exact plain_asBool _ | with_reducible exact plain_sureAddr _ | with_reducible exact plain_bounds _ _ _ _ | with_reducible exact plain_panic _ | with_reducible exact plain_part _ _ _ | with_reducible exact plain_loadCells _ _ | with_reducible exact plain_storeCells _ _ _ | with_reducible exact plain_loadVar _ _ | with_reducible exact plain_storeVar _ _ _ | with_reducible exact plain_choose _ | with_reducible exact plain_askRoom _ | with_reducible exact plain_newRow _ _ | with_reducible exact plain_newVar _ _ | with_reducible exact plain_elemOf _ | with_reducible exact plain_load _ | with_reducible exact plain_store _ _ | with_reducible exact plain_stuck _ | with_reducible exact plain_unsupported _ | with_reducible exact plain_pure _ | with_reducible refine plain_bind ?_ fun _ => ?_ | with_reducible refine plain_map ?_ | with_reducible refine plain_ite ?_ ?_ | split | exact trivial | dsimp only)
theorem plain_cap (ts : Array TypeId) (t : TypeId) (av : Array Value) : Plain P (Builtin.cap_ ts t av) := by
  unfold Builtin.cap_
  (repeat' first | refine plain_getObj _ fun _ _ => ?_ | with_reducible exact plain_under _ | with_reducible exact plain_size _ | with_reducible exact plain_agg _ | with_reducible exact plain_zero _ | with_reducible exact plain_info _ | with_reducible exact plain_asIntOf _ | with_reducible exact plain_asInt _ | with_reducible exact plain_asAgg _ | with_reducible exact plain_asAddr _ | with_reducible exact plain_asBool _ | with_reducible exact plain_sureAddr _ | with_reducible exact plain_bounds _ _ _ _ | with_reducible exact plain_panic _ | with_reducible exact plain_part _ _ _ | with_reducible exact plain_loadCells _ _ | with_reducible exact plain_storeCells _ _ _ | with_reducible exact plain_loadVar _ _ | with_reducible exact plain_storeVar _ _ _ | with_reducible exact plain_choose _ | with_reducible exact plain_askRoom _ | with_reducible exact plain_newRow _ _ | with_reducible exact plain_newVar _ _ | with_reducible exact plain_elemOf _ | with_reducible exact plain_load _ | with_reducible exact plain_store _ _ | with_reducible exact plain_stuck _ | with_reducible exact plain_unsupported _ | with_reducible exact plain_pure _ | with_reducible refine plain_bind ?_ fun _ => ?_ | with_reducible refine plain_map ?_ | with_reducible refine plain_ite ?_ ?_ | split | exact trivial | dsimp only)
theorem plain_stringOp (op : BinOp) (x y : ByteArray) : Plain P (Op.stringOp op x y) := by
  unfold Op.stringOp
  (repeat' first | with_reducible exact plain_under _ | with_reducible exact plain_size _ | with_reducible exact plain_agg _ | with_reducible exact plain_zero _ | with_reducible exact plain_info _ | with_reducible exact plain_asIntOf _ | with_reducible exact plain_asInt _ | with_reducible exact plain_asAgg _ | with_reducible exact plain_asAddr _ | with_reducible exact plain_asBool _ | with_reducible exact plain_sureAddr _ | with_reducible exact plain_bounds _ _ _ _ | with_reducible exact plain_panic _ | with_reducible exact plain_part _ _ _ | with_reducible exact plain_loadCells _ _ | with_reducible exact plain_storeCells _ _ _ | with_reducible exact plain_loadVar _ _ | with_reducible exact plain_storeVar _ _ _ | with_reducible exact plain_choose _ | with_reducible exact plain_askRoom _ | with_reducible exact plain_newRow _ _ | with_reducible exact plain_newVar _ _ | with_reducible exact plain_elemOf _ | with_reducible exact plain_load _ | with_reducible exact plain_store _ _ | with_reducible exact plain_stuck _ | with_reducible exact plain_unsupported _ | with_reducible exact plain_pure _ | with_reducible refine plain_bind ?_ fun _ => ?_ | with_reducible refine plain_map ?_ | with_reducible refine plain_ite ?_ ?_ | split | exact trivial | dsimp only)
theorem plain_shift (op : BinOp) (k : IntKind) (x : Int) (k' : IntKind) (y : Int) : Plain P (Op.shift op k x k' y) := by
  unfold Op.shift
  (repeat' first | with_reducible exact plain_under _ | with_reducible exact plain_size _ | with_reducible exact plain_agg _ | with_reducible exact plain_zero _ | with_reducible exact plain_info _ | with_reducible exact plain_asIntOf _ | with_reducible exact plain_asInt _ | with_reducible exact plain_asAgg _ | with_reducible exact plain_asAddr _ | with_reducible exact plain_asBool _ | with_reducible exact plain_sureAddr _ | with_reducible exact plain_bounds _ _ _ _ | with_reducible exact plain_panic _ | with_reducible exact plain_part _ _ _ | with_reducible exact plain_loadCells _ _ | with_reducible exact plain_storeCells _ _ _ | with_reducible exact plain_loadVar _ _ | with_reducible exact plain_storeVar _ _ _ | with_reducible exact plain_choose _ | with_reducible exact plain_askRoom _ | with_reducible exact plain_newRow _ _ | with_reducible exact plain_newVar _ _ | with_reducible exact plain_elemOf _ | with_reducible exact plain_load _ | with_reducible exact plain_store _ _ | with_reducible exact plain_stuck _ | with_reducible exact plain_unsupported _ | with_reducible exact plain_pure _ | with_reducible refine plain_bind ?_ fun _ => ?_ | with_reducible refine plain_map ?_ | with_reducible refine plain_ite ?_ ?_ | split | exact trivial | dsimp only)
theorem plain_intArith (op : BinOp) (k : IntKind) (x y : Int) : Plain P (Op.intArith op k x y) := by
  unfold Op.intArith
  (repeat' first | with_reducible exact plain_under _ | with_reducible exact plain_size _ | with_reducible exact plain_agg _ | with_reducible exact plain_zero _ | with_reducible exact plain_info _ | with_reducible exact plain_asIntOf _ | with_reducible exact plain_asInt _ | with_reducible exact plain_asAgg _ | with_reducible exact plain_asAddr _ | with_reducible exact plain_asBool _ | with_reducible exact plain_sureAddr _ | with_reducible exact plain_bounds _ _ _ _ | with_reducible exact plain_panic _ | with_reducible exact plain_part _ _ _ | with_reducible exact plain_loadCells _ _ | with_reducible exact plain_storeCells _ _ _ | with_reducible exact plain_loadVar _ _ | with_reducible exact plain_storeVar _ _ _ | with_reducible exact plain_choose _ | with_reducible exact plain_askRoom _ | with_reducible exact plain_newRow _ _ | with_reducible exact plain_newVar _ _ | with_reducible exact plain_elemOf _ | with_reducible exact plain_load _ | with_reducible exact plain_store _ _ | with_reducible exact plain_stuck _ | with_reducible exact plain_unsupported _ | with_reducible exact plain_pure _ | with_reducible refine plain_bind ?_ fun _ => ?_ | with_reducible refine plain_map ?_ | with_reducible refine plain_ite ?_ ?_ | split | exact trivial | dsimp only)
theorem plain_intDiv (op : BinOp) (k : IntKind) (x y : Int) : Plain P (Op.intDiv op k x y) := by
  unfold Op.intDiv
  (repeat' first | with_reducible exact plain_under _ | with_reducible exact plain_size _ | with_reducible exact plain_agg _ | with_reducible exact plain_zero _ | with_reducible exact plain_info _ | with_reducible exact plain_asIntOf _ | with_reducible exact plain_asInt _ | with_reducible exact plain_asAgg _ | with_reducible exact plain_asAddr _ | with_reducible exact plain_asBool _ | with_reducible exact plain_sureAddr _ | with_reducible exact plain_bounds _ _ _ _ | with_reducible exact plain_panic _ | with_reducible exact plain_part _ _ _ | with_reducible exact plain_loadCells _ _ | with_reducible exact plain_storeCells _ _ _ | with_reducible exact plain_loadVar _ _ | with_reducible exact plain_storeVar _ _ _ | with_reducible exact plain_choose _ | with_reducible exact plain_askRoom _ | with_reducible exact plain_newRow _ _ | with_reducible exact plain_newVar _ _ | with_reducible exact plain_elemOf _ | with_reducible exact plain_load _ | with_reducible exact plain_store _ _ | with_reducible exact plain_stuck _ | with_reducible exact plain_unsupported _ | with_reducible exact plain_pure _ | with_reducible refine plain_bind ?_ fun _ => ?_ | with_reducible refine plain_map ?_ | with_reducible refine plain_ite ?_ ?_ | split | exact trivial | dsimp only)
theorem plain_intBits (op : BinOp) (k : IntKind) (x y : Int) : Plain P (Op.intBits op k x y) := by
  unfold Op.intBits
  cases op <;> trivial
theorem plain_intCmp (op : BinOp) (x y : Int) : Plain P (Op.intCmp op x y) := by
  unfold Op.intCmp
  (repeat' first | with_reducible exact plain_under _ | with_reducible exact plain_size _ | with_reducible exact plain_agg _ | with_reducible exact plain_zero _ | with_reducible exact plain_info _ | with_reducible exact plain_asIntOf _ | with_reducible exact plain_asInt _ | with_reducible exact plain_asAgg _ | with_reducible exact plain_asAddr _ | with_reducible exact plain_asBool _ | with_reducible exact plain_sureAddr _ | with_reducible exact plain_bounds _ _ _ _ | with_reducible exact plain_panic _ | with_reducible exact plain_part _ _ _ | with_reducible exact plain_loadCells _ _ | with_reducible exact plain_storeCells _ _ _ | with_reducible exact plain_loadVar _ _ | with_reducible exact plain_storeVar _ _ _ | with_reducible exact plain_choose _ | with_reducible exact plain_askRoom _ | with_reducible exact plain_newRow _ _ | with_reducible exact plain_newVar _ _ | with_reducible exact plain_elemOf _ | with_reducible exact plain_load _ | with_reducible exact plain_store _ _ | with_reducible exact plain_stuck _ | with_reducible exact plain_unsupported _ | with_reducible exact plain_pure _ | with_reducible refine plain_bind ?_ fun _ => ?_ | with_reducible refine plain_map ?_ | with_reducible refine plain_ite ?_ ?_ | split | exact trivial | dsimp only)
theorem plain_binInt (op : BinOp) (t : TypeId) (k k' : IntKind) (x y : Int) : Plain P (Go.binOp op t (.int k x) (.int k' y)) := by
  have key : ∀ s : Sem Value, Plain P s → Plain P (if k ≠ k' then stuck "BinOp: operands of different kinds" else s) := fun s hs => by
    split
    · trivial
    · exact hs
  cases op
  case shl => exact plain_shift .shl k x k' y
  case shr => exact plain_shift .shr k x k' y
  case add => exact key _ (plain_intArith .add k x y)
  case sub => exact key _ (plain_intArith .sub k x y)
  case mul => exact key _ (plain_intArith .mul k x y)
  case quo => exact key _ (plain_intDiv .quo k x y)
  case rem => exact key _ (plain_intDiv .rem k x y)
  case and => exact key _ (plain_intBits .and k x y)
  case or => exact key _ (plain_intBits .or k x y)
  case xor => exact key _ (plain_intBits .xor k x y)
  case andNot => exact key _ (plain_intBits .andNot k x y)
  all_goals exact key _ (plain_intCmp _ x y)
theorem plain_binStr (op : BinOp) (t : TypeId) (x y : ByteArray) : Plain P (Go.binOp op t (.string x) (.string y)) := by
  have e : Go.binOp op t (.string x) (.string y) = Op.stringOp op x y := by cases op <;> rfl
  rw [e]
  exact plain_stringOp op x y
theorem plain_unary (op : UnOp) (x : Value) : Plain P (Op.unary op x) := by
  unfold Op.unary
  (repeat' first | with_reducible exact plain_intArith _ _ _ _ | with_reducible exact plain_intBits _ _ _ _ | with_reducible exact plain_under _ | with_reducible exact plain_size _ | with_reducible exact plain_agg _ | with_reducible exact plain_zero _ | with_reducible exact plain_info _ | with_reducible exact plain_asIntOf _ | with_reducible exact plain_asInt _ | with_reducible exact plain_asAgg _ | with_reducible exact plain_asAddr _ | with_reducible exact plain_asBool _ | with_reducible exact plain_sureAddr _ | with_reducible exact plain_bounds _ _ _ _ | with_reducible exact plain_panic _ | with_reducible exact plain_part _ _ _ | with_reducible exact plain_loadCells _ _ | with_reducible exact plain_storeCells _ _ _ | with_reducible exact plain_loadVar _ _ | with_reducible exact plain_storeVar _ _ _ | with_reducible exact plain_choose _ | with_reducible exact plain_askRoom _ | with_reducible exact plain_newRow _ _ | with_reducible exact plain_newVar _ _ | with_reducible exact plain_elemOf _ | with_reducible exact plain_load _ | with_reducible exact plain_store _ _ | with_reducible exact plain_stuck _ | with_reducible exact plain_unsupported _ | with_reducible exact plain_pure _ | with_reducible refine plain_bind ?_ fun _ => ?_ | with_reducible refine plain_map ?_ | with_reducible refine plain_ite ?_ ?_ | split | exact trivial | dsimp only)
theorem plain_min2 (k k' : IntKind) (x y : Int) : Plain P (Builtin.min2 (.int k x) (.int k' y)) := trivial
theorem plain_max2 (k k' : IntKind) (x y : Int) : Plain P (Builtin.max2 (.int k x) (.int k' y)) := trivial
theorem plain_fieldAt {s : TypeId} {F : Array Field} {x : Value} {i : Nat} {f : Field} (hu : P.underlying s = some (.struct F)) (hf : F[i]? = some f) (hi : (P.info? f.type).isSome = true) (h0 : P.cellsOf f.type ≠ 0) : Plain P (Instr.fieldAt s x i) := by
  unfold Instr.fieldAt
  refine plain_under_of hu ?_
  simp only [hf]
  refine plain_bind (plain_sureAddr x) fun a => ?_
  refine plain_bind ?_ fun _ => trivial
  unfold fieldPlace
  refine plain_size_of hi ?_
  rw [if_neg h0]
  trivial

theorem doom_bind {α β : Type} {s : Sem α} {f : α → Sem β} (h : ∀ a, Doomed (f a)) : Doomed (s >>= f) := Doomed.bind (.inr h)
theorem plain_share {β : Type} (size sLen n : Nat) (base : Option Addr) (x : Value) (g : Bool → Sem β) (hg : ∀ b, Plain P (g b)) (h : ∀ b, Doomed (g b)) : Plain P (Builtin.mayShare size sLen n base x >>= g) := by
  unfold Builtin.mayShare
  have two : ∀ there : Bool, Plain P ((if (!there) = true then pure true else match x with
      | .slice (some b) _ _ => do pure (!(← Builtin.holdsCells b (n * size)) || base.any (·.block == b.block))
      | _ => pure false : Sem Bool) >>= g) := fun there => by
    split
    · exact hg _
    · split
      · intro s
        exact Doomed.bind (.inr h)
      · exact hg _
  cases base with
  | none => exact two true
  | some a =>
    intro s
    exact Doomed.bind (.inr h)
theorem doomed_ite {α : Type} {c : Prop} [Decidable c] {x y : Sem α} (hx : Doomed x) (hy : Doomed y) : Doomed (if c then x else y) := by split; exact hx; exact hy
theorem plain_noRoom : Plain P (mark .noRoom) := ⟨.inl rfl, trivial⟩
theorem plain_lenOf (v : Value) : Plain P (Builtin.lenOf v) := by
  unfold Builtin.lenOf
  split <;> trivial
theorem plain_firstCells (size n : Nat) (v : Value) : Plain P (Builtin.firstCells size n v) := by
  unfold Builtin.firstCells
  (repeat' first | with_reducible exact plain_under _ | with_reducible exact plain_size _ | with_reducible exact plain_agg _ | with_reducible exact plain_zero _ | with_reducible exact plain_info _ | with_reducible exact plain_asIntOf _ | with_reducible exact plain_asInt _ | with_reducible exact plain_asAgg _ | with_reducible exact plain_asAddr _ | with_reducible exact plain_asBool _ | with_reducible exact plain_sureAddr _ | with_reducible exact plain_bounds _ _ _ _ | with_reducible exact plain_panic _ | with_reducible exact plain_part _ _ _ | with_reducible exact plain_loadCells _ _ | with_reducible exact plain_storeCells _ _ _ | with_reducible exact plain_loadVar _ _ | with_reducible exact plain_storeVar _ _ _ | with_reducible exact plain_choose _ | with_reducible exact plain_askRoom _ | with_reducible exact plain_newRow _ _ | with_reducible exact plain_newVar _ _ | with_reducible exact plain_elemOf _ | with_reducible exact plain_load _ | with_reducible exact plain_store _ _ | with_reducible exact plain_stuck _ | with_reducible exact plain_unsupported _ | with_reducible exact plain_pure _ | with_reducible refine plain_bind ?_ fun _ => ?_ | with_reducible refine plain_map ?_ | with_reducible refine plain_ite ?_ ?_ | split | exact trivial | dsimp only)
set_option maxHeartbeats 4000000 in
theorem plain_append (ts : Array TypeId) (t : TypeId) (av : Array Value) : Plain P (Builtin.append_ ts t av) := by
  unfold Builtin.append_
  (repeat' first | with_reducible exact plain_lenOf _ | with_reducible exact plain_noRoom | with_reducible exact plain_firstCells _ _ _ | (with_reducible refine plain_share _ _ _ _ _ _ (fun _ => ?_) (fun _ => ?_)) | (with_reducible refine doomed_ite ?_ ?_) | exact doom_bind fun _ => trivial | with_reducible exact plain_under _ | with_reducible exact plain_size _ | with_reducible exact plain_agg _ | with_reducible exact plain_zero _ | with_reducible exact plain_info _ | with_reducible exact plain_asIntOf _ | with_reducible exact plain_asInt _ | with_reducible exact plain_asAgg _ | with_reducible exact plain_asAddr _ | with_reducible exact plain_asBool _ | with_reducible exact plain_sureAddr _ | with_reducible exact plain_bounds _ _ _ _ | with_reducible exact plain_panic _ | with_reducible exact plain_part _ _ _ | with_reducible exact plain_loadCells _ _ | with_reducible exact plain_storeCells _ _ _ | with_reducible exact plain_loadVar _ _ | with_reducible exact plain_storeVar _ _ _ | with_reducible exact plain_choose _ | with_reducible exact plain_askRoom _ | with_reducible exact plain_newRow _ _ | with_reducible exact plain_newVar _ _ | with_reducible exact plain_elemOf _ | with_reducible exact plain_load _ | with_reducible exact plain_store _ _ | with_reducible exact plain_stuck _ | with_reducible exact plain_unsupported _ | with_reducible exact plain_pure _ | with_reducible refine plain_bind ?_ fun _ => ?_ | with_reducible refine plain_map ?_ | with_reducible refine plain_ite ?_ ?_ | split | exact trivial | dsimp only)
theorem plain_copy (ts : Array TypeId) (t : TypeId) (av : Array Value) : Plain P (Builtin.copy_ ts t av) := by
  unfold Builtin.copy_
  (repeat' first | with_reducible exact plain_lenOf _ | with_reducible exact plain_firstCells _ _ _ | with_reducible exact plain_under _ | with_reducible exact plain_size _ | with_reducible exact plain_agg _ | with_reducible exact plain_zero _ | with_reducible exact plain_info _ | with_reducible exact plain_asIntOf _ | with_reducible exact plain_asInt _ | with_reducible exact plain_asAgg _ | with_reducible exact plain_asAddr _ | with_reducible exact plain_asBool _ | with_reducible exact plain_sureAddr _ | with_reducible exact plain_bounds _ _ _ _ | with_reducible exact plain_panic _ | with_reducible exact plain_part _ _ _ | with_reducible exact plain_loadCells _ _ | with_reducible exact plain_storeCells _ _ _ | with_reducible exact plain_loadVar _ _ | with_reducible exact plain_storeVar _ _ _ | with_reducible exact plain_choose _ | with_reducible exact plain_askRoom _ | with_reducible exact plain_newRow _ _ | with_reducible exact plain_newVar _ _ | with_reducible exact plain_elemOf _ | with_reducible exact plain_load _ | with_reducible exact plain_store _ _ | with_reducible exact plain_stuck _ | with_reducible exact plain_unsupported _ | with_reducible exact plain_pure _ | with_reducible refine plain_bind ?_ fun _ => ?_ | with_reducible refine plain_map ?_ | with_reducible refine plain_ite ?_ ?_ | split | exact trivial | dsimp only)
theorem plain_makeChan (t : TypeId) (n : Value) : Plain P (Instr.makeChan t n) := by
  unfold Instr.makeChan
  (repeat' first | with_reducible exact plain_new rfl | with_reducible exact plain_under _ | with_reducible exact plain_size _ | with_reducible exact plain_agg _ | with_reducible exact plain_zero _ | with_reducible exact plain_info _ | with_reducible exact plain_asIntOf _ | with_reducible exact plain_asInt _ | with_reducible exact plain_asAgg _ | with_reducible exact plain_asAddr _ | with_reducible exact plain_asBool _ | with_reducible exact plain_sureAddr _ | with_reducible exact plain_bounds _ _ _ _ | with_reducible exact plain_panic _ | with_reducible exact plain_part _ _ _ | with_reducible exact plain_loadCells _ _ | with_reducible exact plain_storeCells _ _ _ | with_reducible exact plain_loadVar _ _ | with_reducible exact plain_storeVar _ _ _ | with_reducible exact plain_choose _ | with_reducible exact plain_askRoom _ | with_reducible exact plain_newRow _ _ | with_reducible exact plain_newVar _ _ | with_reducible exact plain_elemOf _ | with_reducible exact plain_load _ | with_reducible exact plain_store _ _ | with_reducible exact plain_stuck _ | with_reducible exact plain_unsupported _ | with_reducible exact plain_pure _ | with_reducible refine plain_bind ?_ fun _ => ?_ | with_reducible refine plain_map ?_ | with_reducible refine plain_ite ?_ ?_ | split | exact trivial | dsimp only)
theorem plain_typeAssert (x : Value) (t u : TypeId) (ok : Bool) : Plain P (Instr.typeAssert x t u ok) := by
  unfold Instr.typeAssert
  (repeat' first | with_reducible exact plain_under _ | with_reducible exact plain_size _ | with_reducible exact plain_agg _ | with_reducible exact plain_zero _ | with_reducible exact plain_info _ | with_reducible exact plain_asIntOf _ | with_reducible exact plain_asInt _ | with_reducible exact plain_asAgg _ | with_reducible exact plain_asAddr _ | with_reducible exact plain_asBool _ | with_reducible exact plain_sureAddr _ | with_reducible exact plain_bounds _ _ _ _ | with_reducible exact plain_panic _ | with_reducible exact plain_part _ _ _ | with_reducible exact plain_loadCells _ _ | with_reducible exact plain_storeCells _ _ _ | with_reducible exact plain_loadVar _ _ | with_reducible exact plain_storeVar _ _ _ | with_reducible exact plain_choose _ | with_reducible exact plain_askRoom _ | with_reducible exact plain_newRow _ _ | with_reducible exact plain_newVar _ _ | with_reducible exact plain_elemOf _ | with_reducible exact plain_load _ | with_reducible exact plain_store _ _ | with_reducible exact plain_stuck _ | with_reducible exact plain_unsupported _ | with_reducible exact plain_pure _ | with_reducible refine plain_bind ?_ fun _ => ?_ | with_reducible refine plain_map ?_ | with_reducible refine plain_ite ?_ ?_ | split | exact trivial | dsimp only)

theorem plain_forInL {α β : Type} {f : α → β → Sem (ForInStep β)} (h : ∀ a b, Plain P (f a b)) : ∀ (l : List α) (b : β), Plain P (forIn l b f)
  | [], b => trivial
  | x :: l, b => by
    rw [List.forIn_cons]
    refine plain_bind (h x b) fun s => ?_
    cases s
    · trivial
    · exact plain_forInL h l _
theorem plain_forIn {α β : Type} {f : α → β → Sem (ForInStep β)} (h : ∀ a b, Plain P (f a b)) (l : Array α) (b : β) : Plain P (forIn l b f) := by
  rw [← Array.forIn_toList]
  exact plain_forInL h _ _
theorem plain_bytesToString (v : Value) : Plain P (Conv.bytesToString v) := by
  unfold Conv.bytesToString
  (repeat' first | (with_reducible refine plain_forIn (fun _ _ => ?_) _ _) | with_reducible exact plain_under _ | with_reducible exact plain_size _ | with_reducible exact plain_agg _ | with_reducible exact plain_zero _ | with_reducible exact plain_info _ | with_reducible exact plain_asIntOf _ | with_reducible exact plain_asInt _ | with_reducible exact plain_asAgg _ | with_reducible exact plain_asAddr _ | with_reducible exact plain_asBool _ | with_reducible exact plain_sureAddr _ | with_reducible exact plain_bounds _ _ _ _ | with_reducible exact plain_panic _ | with_reducible exact plain_part _ _ _ | with_reducible exact plain_loadCells _ _ | with_reducible exact plain_storeCells _ _ _ | with_reducible exact plain_loadVar _ _ | with_reducible exact plain_storeVar _ _ _ | with_reducible exact plain_choose _ | with_reducible exact plain_askRoom _ | with_reducible exact plain_newRow _ _ | with_reducible exact plain_newVar _ _ | with_reducible exact plain_elemOf _ | with_reducible exact plain_load _ | with_reducible exact plain_store _ _ | with_reducible exact plain_stuck _ | with_reducible exact plain_unsupported _ | with_reducible exact plain_pure _ | with_reducible refine plain_bind ?_ fun _ => ?_ | with_reducible refine plain_map ?_ | with_reducible refine plain_ite ?_ ?_ | split | exact trivial | dsimp only)

variable {O Z : Nat → Prop} {w w1 w2 w' W W1 W2 : World}
theorem does_bind {α β : Type} {s : Sem α} {f : α → Sem β} {x : α} {r : β} (h1 : Does P O Z s W x W1) (h2 : Does P (grow O W W1) Z (f x) W1 r W2) : Does P O Z (s >>= f) W r W2 := by
  have hg : grow (grow O W W1) W1 W2 = grow O W W2 := grow_trans h1.size h2.size
  refine ⟨by rw [Sem.run_bind, h1.run]; exact h2.run, h2.os.trans h1.os, h2.tape.trans h1.tape, h2.output.trans h1.output, Nat.le_trans h1.size h2.size, fun b hb hn => ?_, fun e he => ?_⟩
  · rw [h2.keep b (Nat.lt_of_lt_of_le hb h1.size) (fun x => x.elim hn fun y => by omega), h1.keep b hb hn]
  · rw [Sem.events_bind, h1.run, Result.evThen_ok] at he
    rcases mem_events _ _ _ he with he | he
    · exact (h1.evs e he).mono fun b hb => by
        rcases hb with hb | ⟨hb, hb'⟩
        · exact .inl hb
        · exact .inr ⟨hb, Nat.lt_of_lt_of_le hb' h2.size⟩
    · rw [← hg]; exact h2.evs e he
theorem Quiet.bind {α β : Type} {s : Sem α} {f : α → Sem β} {x : α} {r : β} (h1 : Quiet P s w x w1) (h2 : Quiet P (f x) w1 r w2) : Quiet P (s >>= f) w r w2 := fun O Z W hl => by
  obtain ⟨W1, d1, l1, e1⟩ := h1 O Z W hl
  obtain ⟨W2, d2, l2, e2⟩ := h2 _ Z W1 l1
  exact ⟨W2, does_bind d1 d2, by rw [← grow_trans d1.size d2.size]; exact l2, e2.trans e1⟩
theorem Quiet.loud {α β : Type} {s : Sem α} {f : α → Sem β} {x : α} {r : β} (h1 : Quiet P s w x w) (h2 : Loud P (f x) w r w2) : Loud P (s >>= f) w r w2 := fun O Z W hl hs hd => by
  obtain ⟨W1, d1, l1, e1⟩ := h1 O Z W hl
  have hsz : W1.heap.size = W.heap.size := by
    rcases Nat.eq_or_lt_of_le d1.size with h | h
    · exact h.symm
    · exfalso
      obtain ⟨o, ho, _⟩ := l1.own W.heap.size (.inr ⟨Nat.le_refl _, h⟩)
      have := (Array.getElem?_eq_some_iff.1 ho).1
      omega
  obtain ⟨W2, d2, l2⟩ := h2 _ Z W1 l1 (hs.trans hsz.symm) (hd.trans e1.symm)
  exact ⟨W2, does_bind d1 d2, by rw [← grow_trans d1.size d2.size]; exact l2⟩
theorem Does.pure {α : Type} (x : α) : Does P O Z (Pure.pure x : Sem α) W x W := ⟨rfl, rfl, rfl, rfl, Nat.le_refl _, fun _ _ _ => rfl, fun e he => by simp at he⟩
theorem Quiet.pure {α : Type} (x : α) : Quiet P (Pure.pure x : Sem α) w x w := fun O Z W hl => ⟨W, .pure x, by rw [grow_self]; exact hl, rfl⟩
theorem Quiet.map {α β : Type} {s : Sem α} {g : α → β} {x : α} (h : Quiet P s w x w1) : Quiet P (s >>= fun a => Pure.pure (g a)) w (g x) w1 := h.bind (.pure _)
theorem Loud.map {α β : Type} {s : Sem α} {g : α → β} {x : α} (h : Loud P s w x w1) : Loud P (s >>= fun a => Pure.pure (g a)) w (g x) w1 := fun O Z W hl h1 h2 => by
  obtain ⟨W1, d1, l1⟩ := h O Z W hl h1 h2
  refine ⟨W1, does_bind d1 (.pure _), l1⟩
end
end Go.Proofs.YtgcbcagaibecbaaGreatDoor.Gap

namespace Go.Proofs.YtgcbcagaibecbaaGreatDoor.Ev
set_option maxRecDepth 20000
open Go Gap
variable [Go.Proofs.YtgcbcagaibecbaaGreatDoor.Gap.Leaps]

abbrev Slots := List (Nat × Value)

def look : Slots → Nat → Option Value
  | [], _ => none
  | (n, v) :: r, t => match Nat.beq n t with | true => some v | false => look r t

structure Fits (N : Nat) (σ : Slots) (a : Act) : Prop where
  size : a.tmps.size = N
  defers : a.defers = []
  vals : ∀ n v, look σ n = some v → a.tmps[n]? = some v

def ro (σ : Slots) : Operand → Option Value
  | .tmp t => look σ t
  | .const v => some v
  | .global g => some (.pointer (some ⟨g, 0, none⟩))
  | .func f => some (.func (.func f) #[] #[])

theorem ro_eval {N : Nat} {σ : Slots} {a : Act} (h : Fits N σ a) {x : Operand} {v : Value} (hx : ro σ x = some v) : a.eval x = v := by
  cases x with
  | tmp t =>
    have := h.vals t v hx
    simp [Act.eval, this]
  | const u => simpa [ro, Act.eval] using hx
  | global g => simpa [ro, Act.eval] using hx
  | func f => simpa [ro, Act.eval] using hx

theorem Fits.put {N : Nat} {σ : Slots} {a : Act} (h : Fits N σ a) {d : Nat} (hd : d < N) (v : Value) : Fits N ((d, v) :: σ) (a.put (some d) v) := by
  refine ⟨by simp [Act.put, h.size], h.defers, fun n u hn => ?_⟩
  unfold look at hn
  cases hb : Nat.beq d n with
  | true =>
    rw [hb] at hn
    have := Nat.eq_of_beq_eq_true hb
    subst this
    simp only [Option.some.injEq] at hn
    subst hn
    simp [Act.put, h.size, hd]
  | false =>
    rw [hb] at hn
    have hne : d ≠ n := Nat.ne_of_beq_eq_false hb
    simp only at hn
    have := h.vals n u hn
    simpa [Act.put, Array.getElem?_setIfInBounds_ne hne] using this

theorem Fits.weaken {N : Nat} {σ σ' : Slots} {a : Act} (h : Fits N σ a) (hs : ∀ n v, look σ' n = some v → look σ n = some v) : Fits N σ' a :=
  ⟨h.size, h.defers, fun n v hn => h.vals n v (hs n v hn)⟩

inductive TK where
  | int | bool | str | ptr | iface | other
  | struct (fs : List (Nat × Nat × Bool))
  | arr (n e esz : Nat) (eagg : Bool)
  | slice (e esz : Nat) (eagg : Bool)
  deriving DecidableEq

structure TI where
  size : Nat
  kind : TK
  zero : List Value

abbrev Tab := List (Nat × TI)

def tl : Tab → Nat → Option TI
  | [], _ => none
  | (n, i) :: r, t => match Nat.beq n t with | true => some i | false => tl r t

def aggB (P : Program) (t : TypeId) : Bool :=
  match P.underlying t with
  | some (.struct _) | some (.array _ _) => true
  | _ => false

def TK.agg : TK → Bool
  | .struct _ | .arr .. => true
  | _ => false

def fieldsOf (P : Program) (F : Array Field) : List (Nat × Nat × Bool) := F.toList.map fun f => (f.offset, P.cellsOf f.type, aggB P f.type)

def kindB (P : Program) (t : TypeId) : TK → Bool
  | .int => match P.underlying t with | some (.int .i64) => true | _ => false
  | .bool => match P.underlying t with | some .bool => true | _ => false
  | .str => match P.underlying t with | some .string => true | _ => false
  | .ptr => match P.underlying t with | some (.pointer _) => true | _ => false
  | .iface => match P.underlying t with | some (.interface _) => true | _ => false
  | .other => match P.underlying t with | some (.struct _) | some (.array _ _) | some (.interface _) | none => false | _ => true
  | .struct fs => match P.underlying t with | some (.struct F) => fieldsOf P F == fs && F.toList.all fun f => (P.info? f.type).isSome && (P.underlying f.type).isSome && P.cellsOf f.type != 0 | _ => false
  | .arr n e esz g => match P.underlying t with | some (.array n' e') => n' == n && e' == e && P.cellsOf e == esz && aggB P e == g && (P.info? e).isSome && (P.underlying e).isSome | _ => false
  | .slice e esz g => match P.underlying t with | some (.slice e') => e' == e && P.cellsOf e == esz && aggB P e == g && (P.info? e).isSome && (P.underlying e).isSome | _ => false

structure TIok (P : Program) (t : TypeId) (i : TI) : Prop where
  info : (P.info? t).map (·.size) = some i.size
  kind : kindB P t i.kind = true
  zero : i.zero = [] ∨ (P.info? t).bind (·.zero) = some (match i.kind.agg with | true => .agg i.zero.toArray | false => i.zero.headD undef)

def TabOk (P : Program) (τ : Tab) : Prop := ∀ t i, tl τ t = some i → TIok P t i

def AllOk (P : Program) : Tab → Prop
  | [] => True
  | (t, i) :: r => TIok P t i ∧ AllOk P r

theorem TabOk.of_all {P : Program} {τ : Tab} (h : AllOk P τ) : TabOk P τ := by
  induction τ with
  | nil => intro t i hi; cases hi
  | cons x r ih =>
    obtain ⟨n, j⟩ := x
    intro t i hi
    unfold tl at hi
    cases hb : Nat.beq n t with
    | true =>
      rw [hb] at hi
      have := Nat.eq_of_beq_eq_true hb
      subst this
      simp only [Option.some.injEq] at hi
      subst hi
      exact h.1
    | false =>
      rw [hb] at hi
      exact ih h.2 t i hi

section
variable {P : Program} {t : TypeId} {i : TI}
theorem TIok.size_run (h : TIok P t i) (w : World) : (sizeOf t).run P w = .ok i.size w := by
  obtain ⟨inf, h1, h2⟩ := Option.map_eq_some_iff.1 h.info
  simp [sizeOf, typeInfo, h1, h2]
theorem under_isSome (h : kindB P t i.kind = true) : ∃ d, P.underlying t = some d := by
  cases hu : P.underlying t with
  | some d => exact ⟨d, rfl⟩
  | none => cases hk : i.kind <;> simp [kindB, hu, hk] at h
theorem aggB_run (w : World) (h : ∃ d, P.underlying t = some d) : (isAgg t).run P w = .ok (aggB P t) w := by
  obtain ⟨d, hd⟩ := h
  cases d <;> simp [isAgg, underlying, hd, aggB]
theorem TIok.agg_run (h : TIok P t i) (w : World) : (isAgg t).run P w = .ok i.kind.agg w := by
  rw [aggB_run w (under_isSome h.kind)]
  congr 1
  have hk := h.kind
  cases hi : i.kind <;> simp only [hi, kindB] at hk <;> (unfold aggB; split at hk <;> simp_all [TK.agg])
theorem cellsOf_run {u : TypeId} (h : (P.info? u).isSome = true) (w : World) : (sizeOf u).run P w = .ok (P.cellsOf u) w := by
  obtain ⟨inf, h1⟩ := Option.isSome_iff_exists.1 h
  simp [sizeOf, typeInfo, h1, Program.cellsOf]
end

structure RngC (n : Int) (p : Prop) : Prop where
  lo : -9223372036854775808 ≤ n
  hi : n ≤ 9223372036854775807
  go : p
structure IdxC (i : Int) (n : Nat) (p : Prop) : Prop where
  lo : 0 ≤ i
  hi : i < (n : Int)
  go : p
structure NzC (n : Int) (p : Prop) : Prop where
  ne : n ≠ 0
  go : p
structure PureC (P : Program) (s : Sem Value) (k : Value → Prop) : Prop where
  ex : ∃ v, (∀ w, s.run P w = .ok v w) ∧ k v
  plain : Plain P s

theorem PureC.of {P : Program} {s : Sem Value} {k : Value → Prop} {v : Value} (h : ∀ w, s.run P w = .ok v w) (hk : k v)
    (hp : Plain P s := by first | exact Go.Proofs.YtgcbcagaibecbaaGreatDoor.Gap.plain_index _ _ _ | exact Go.Proofs.YtgcbcagaibecbaaGreatDoor.Gap.plain_sliceAt _ _ _ _ _ | exact Go.Proofs.YtgcbcagaibecbaaGreatDoor.Gap.plain_binStr _ _ _ _ | exact Go.Proofs.YtgcbcagaibecbaaGreatDoor.Gap.plain_binInt _ _ _ _ _ _ | exact Go.Proofs.YtgcbcagaibecbaaGreatDoor.Gap.plain_unary _ _ | exact Go.Proofs.YtgcbcagaibecbaaGreatDoor.Gap.plain_build _ _) : PureC P s k := ⟨⟨v, h, hk⟩, hp⟩

theorem negI {P : Program} {n m : Int} {k : Value → Prop} (h : IntKind.i64.wrap (0 - n) = m) (hk : k (.int .i64 m)) : PureC P (Op.unary .neg (.int .i64 n)) k :=
  PureC.of (fun w => by
    show (pure (Value.int .i64 (IntKind.i64.wrap (0 - n))) : Sem Value).run P w = _
    rw [h]
    rfl) hk
def br (b : Bool) (p q : Prop) : Prop := match b with | true => p | false => q
theorem brI {b : Bool} {p q : Prop} (h1 : b = true → p) (h2 : b = false → q) : br b p q := by cases b; exact h2 rfl; exact h1 rfl
theorem brD {c : Prop} [Decidable c] {p q : Prop} (h1 : c → p) (h2 : ¬ c → q) : br (decide c) p q := by
  by_cases h : c
  · rw [decide_eq_true h]; exact h1 h
  · rw [decide_eq_false h]; exact h2 h
theorem brND {c : Prop} [Decidable c] {p q : Prop} (h1 : ¬ c → p) (h2 : c → q) : br (!(decide c)) p q := by
  by_cases h : c
  · rw [decide_eq_true h]; exact h2 h
  · rw [decide_eq_false h]; exact h1 h
theorem brN {b : Bool} {p q : Prop} (h1 : b = false → p) (h2 : b = true → q) : br (!b) p q := by cases b; exact h1 rfl; exact h2 rfl
theorem br_elim {b : Bool} {p q : Prop} (h : br b p q) : (b = true ∧ p) ∨ (b = false ∧ q) := by cases b; exact .inr ⟨rfl, h⟩; exact .inl ⟨rfl, h⟩

def nth : List Value → Nat → Option Value
  | [], _ => none
  | v :: _, 0 => some v
  | _ :: r, n + 1 => nth r n
theorem nth_eq (l : List Value) (n : Nat) : nth l n = l[n]? := by
  induction l generalizing n with
  | nil => rfl
  | cons x r ih => cases n with
    | zero => rfl
    | succ n => simpa [nth] using ih n

def over (cs : List Value) (o : Nat) (vs : List Value) : List Value := cs.take o ++ vs ++ cs.drop (o + vs.length)

def overK : List Value → Nat → List Value → (List Value → Prop) → Prop
  | cs, 0, [], k => k cs
  | [], 0, _ :: _, _ => False
  | _ :: cs, 0, v :: vs, k => overK cs 0 vs fun l => k (v :: l)
  | c :: cs, n + 1, vs, k => overK cs n vs fun l => k (c :: l)
  | [], _ + 1, _, _ => False
theorem overK_spec : ∀ (cs : List Value) (o : Nat) (vs : List Value) (k : List Value → Prop), overK cs o vs k → o + vs.length ≤ cs.length ∧ k (over cs o vs)
  | cs, 0, [], k, h => by simpa [over, overK] using h
  | [], 0, _ :: _, _, h => h.elim
  | _ :: cs, 0, v :: vs, k, h => by
    have := overK_spec cs 0 vs _ h
    refine ⟨by simpa using this.1, ?_⟩
    simpa [over] using this.2
  | c :: cs, n + 1, vs, k, h => by
    have := overK_spec cs n vs _ h
    refine ⟨by have := this.1; simp; omega, ?_⟩
    have h2 := this.2
    simp only [over, List.take_succ_cons, List.cons_append] at h2 ⊢
    have e : n + 1 + vs.length = (n + vs.length) + 1 := by omega
    rw [e, List.drop_succ_cons]
    exact h2
  | [], _ + 1, _, _, h => h.elim

def subK : List Value → Nat → Nat → (List Value → Prop) → Prop
  | _, 0, 0, k => k []
  | [], 0, _ + 1, _ => False
  | c :: cs, 0, n + 1, k => subK cs 0 n fun l => k (c :: l)
  | _ :: cs, o + 1, n, k => subK cs o n k
  | [], _ + 1, _, _ => False
theorem subK_spec : ∀ (cs : List Value) (o n : Nat) (k : List Value → Prop), subK cs o n k → o + n ≤ cs.length ∧ k ((cs.drop o).take n)
  | [], 0, 0, k, h => ⟨by simp, h⟩
  | c :: cs, 0, 0, k, h => ⟨by simp, h⟩
  | [], 0, _ + 1, _, h => h.elim
  | c :: cs, 0, n + 1, k, h => by
    have := subK_spec cs 0 n _ h
    exact ⟨by have := this.1; simp; omega, by simpa using this.2⟩
  | _ :: cs, o + 1, n, k, h => by
    have := subK_spec cs o n _ h
    exact ⟨by have := this.1; simp; omega, by simpa using this.2⟩
  | [], _ + 1, _, _, h => h.elim

def cellsL : Value → List Value
  | .agg cs => cs.toList
  | v => [v]
theorem cellsL_eq (v : Value) : cellsL v = v.cells.toList := by cases v <;> rfl

def roAll (σ : Slots) : List Operand → (List Value → Prop) → Prop
  | [], k => k []
  | x :: xs, k => match ro σ x with
    | some v => roAll σ xs fun vs => k (v :: vs)
    | none => False
theorem roAll_spec {N : Nat} {σ : Slots} {a : Act} (hf : Fits N σ a) : ∀ (xs : List Operand) (k : List Value → Prop), roAll σ xs k → k (xs.map a.eval)
  | [], k, h => h
  | x :: xs, k, h => by
    unfold roAll at h
    cases hx : ro σ x with
    | none => rw [hx] at h; exact h.elim
    | some v =>
      rw [hx] at h
      have := roAll_spec hf xs _ h
      simpa [ro_eval hf hx] using this

def band (x y : Int) : Int := IntKind.i64.wrap ((BitVec.ofInt 64 x &&& BitVec.ofInt 64 y).toNat : Int)

def bin64 (P : Program) (op : BinOp) (x y : Int) (k : Value → Prop) : Prop :=
  match op with
  | .add => RngC (x + y) (k (.int .i64 (x + y)))
  | .sub => RngC (x - y) (k (.int .i64 (x - y)))
  | .mul => RngC (x * y) (k (.int .i64 (x * y)))
  | .eql => k (.bool (x == y))
  | .neq => k (.bool (x != y))
  | .lss => k (.bool (x < y))
  | .leq => k (.bool (x ≤ y))
  | .gtr => k (.bool (x > y))
  | .geq => k (.bool (x ≥ y))
  | .and => k (.int .i64 (band x y))
  | .rem => NzC y (k (.int .i64 (x.tmod y)))
  | .quo => NzC y (RngC (x.tdiv y) (k (.int .i64 (x.tdiv y))))
  | op => PureC P (Go.binOp op 0 (.int .i64 x) (.int .i64 y)) k

def pBin (P : Program) (τ : Tab) (op : BinOp) (t : TypeId) (cy : Bool) (x y : Value) (k : Value → Prop) : Prop :=
  match x, y with
  | .int .i64 a, .int .i64 b => bin64 P op a b k
  | .bool a, .bool b => match tl τ t with
    | some ⟨_, .bool, _⟩ => (match op with
      | .eql => k (.bool (a == b))
      | .neq => k (.bool (!(a == b)))
      | _ => False)
    | _ => False
  | .nilIface, .nilIface => match tl τ t, cy with
    | some ⟨_, .iface, _⟩, true => (match op with
      | .eql => k (.bool true)
      | .neq => k (.bool false)
      | _ => False)
    | _, _ => False
  | .iface _ _, .nilIface => match tl τ t with
    | some ⟨_, .iface, _⟩ => (match op with
      | .eql => k (.bool false)
      | .neq => k (.bool true)
      | _ => False)
    | _ => False
  | .pointer a, .pointer none => match tl τ t with
    | some ⟨_, .ptr, _⟩ => (match op with
      | .eql => k (.bool a.isNone)
      | .neq => k (.bool (!a.isNone))
      | _ => False)
    | _ => False
  | .slice a _ _, .slice none _ _ => match tl τ t with
    | some ⟨_, .slice _ _ _, _⟩ => (match op with
      | .eql => k (.bool a.isNone)
      | .neq => k (.bool (!a.isNone))
      | _ => False)
    | _ => False
  | .agg a, .agg b => PureC P (do eqGuard op t (.tmp 0) (.tmp 0) (.agg a) (.agg b); Go.binOp op t (.agg a) (.agg b)) k
  | .string a, .string b => PureC P (Go.binOp op t (.string a) (.string b)) k
  | .int q a, .int q' b => PureC P (Go.binOp op t (.int q a) (.int q' b)) k
  | .pointer (some a), .pointer (some b) => PureC P (Go.binOp op t (.pointer (some a)) (.pointer (some b))) k
  | _, _ => False

def isConstO : Operand → Bool
  | .const _ => true
  | _ => false

def buildK (fs : List (Nat × Nat × Bool)) (zero : List Value) : List (Nat × Value) → (List Value → Prop) → Prop
  | [], k => k zero
  | (i, v) :: r, k => match fs[i]? with
    | some (off, size, _) => (match Nat.beq (cellsL v).length size with
      | true => overK zero off (cellsL v) fun z => buildK fs z r k
      | false => False)
    | none => False

def roParts (σ : Slots) : List (Nat × Operand) → (List (Nat × Value) → Prop) → Prop
  | [], k => k []
  | (i, x) :: xs, k => match ro σ x with
    | some v => roParts σ xs fun vs => k ((i, v) :: vs)
    | none => False
theorem roParts_spec {N : Nat} {σ : Slots} {a : Act} (hf : Fits N σ a) : ∀ (xs : List (Nat × Operand)) (k : List (Nat × Value) → Prop), roParts σ xs k → k (xs.map fun p => (p.1, a.eval p.2))
  | [], k, h => h
  | (i, x) :: xs, k, h => by
    unfold roParts at h
    cases hx : ro σ x with
    | none => rw [hx] at h; exact h.elim
    | some v =>
      rw [hx] at h
      have := roParts_spec hf xs _ h
      simpa [ro_eval hf hx] using this

def pureOp (P : Program) (τ : Tab) (σ : Slots) (op : Op) (k : Value → Prop) : Prop :=
  match op with
  | .move x | .assign x => match ro σ x with
    | some v => k v
    | none => False
  | .pick c x y => match ro σ c with
    | some (.bool b) => br b (match ro σ x with | some v => k v | none => False) (match ro σ y with | some v => k v | none => False)
    | _ => False
  | .unOp .not _ x => match ro σ x with
    | some (.bool b) => k (.bool (!b))
    | _ => False
  | .unOp .neg _ x => match ro σ x with
    | some (.int q n) => PureC P (Op.unary .neg (.int q n)) k
    | _ => False
  | .unOp .xor _ x => match ro σ x with
    | some (.int q n) => PureC P (Op.unary .xor (.int q n)) k
    | _ => False
  | .binOp op t x y _ => match ro σ x, ro σ y with
    | some vx, some vy => pBin P τ op t (isConstO y) vx vy k
    | _, _ => False
  | .extract x i => match ro σ x with
    | some (.tuple vs) => (match nth vs.toList i with
      | some v => k v
      | none => False)
    | _ => False
  | .nilCheck x => match ro σ x with
    | some (.pointer (some a)) => k (.pointer (some a))
    | some (.func (.func f) fs cs) => k (.func (.func f) fs cs)
    | _ => False
  | .fieldAddr s x f => match ro σ x, tl τ s with
    | some (.pointer (some ⟨b, o, none⟩)), some ⟨_, .struct fs, _⟩ => (match fs[f]? with
      | some (off, _, _) => k (.pointer (some ⟨b, o + off, none⟩))
      | none => False)
    | _, _ => False
  | .indexAddr t x i => match ro σ x, ro σ i, tl τ t with
    | some (.pointer (some ⟨b, o, none⟩)), some (.int _ j), some ⟨_, .arr n _ esz _, _⟩ => IdxC j n (k (.pointer (some ⟨b, o + j.toNat * esz, none⟩)))
    | some (.slice (some ⟨b, o, none⟩) n _), some (.int _ j), some ⟨_, .slice _ esz _, _⟩ => IdxC j n (k (.pointer (some ⟨b, o + j.toNat * esz, none⟩)))
    | _, _, _ => False
  | .index t x i => match ro σ x, ro σ i with
    | some vx, some vi => PureC P (Instr.index t vx vi) k
    | _, _ => False
  | .field t x f => match ro σ x, tl τ t with
    | some (.agg cs), some ⟨_, .struct fs, _⟩ => (match fs[f]? with
      | some (off, size, true) => subK cs.toList off size fun l => k (.agg l.toArray)
      | some (off, _, false) => (match nth cs.toList off with
        | some v => k v
        | none => False)
      | none => False)
    | _, _ => False
  | .makeInterface t x => match ro σ x, tl τ t with
    | some v, some ⟨_, kd, _⟩ => (match kd with
      | .iface => False
      | _ => k (.iface t v))
    | _, _ => False
  | .makeFunc fn first cs => roAll σ first.toList fun f => roAll σ cs.toList fun c => k (.func fn f.toArray c.toArray)
  | .build t parts => roParts σ parts.toList fun ps => match tl τ t with
    | some ⟨_, .struct fs, z :: zs⟩ => buildK fs (z :: zs) ps fun l => k (.agg l.toArray)
    | _ => PureC P (Instr.build t ps.toArray) k
  | .call { callee := .builtin .len, args := av, argTypes := ts } => roAll σ av.toList fun vs => match vs, ts.toList with
    | [.slice _ n _], [t] => (match tl τ t with
      | some ⟨_, .slice _ _ _, _⟩ => k (.int .i64 n)
      | _ => False)
    | [.string s], [t] => (match tl τ t with
      | some ⟨_, .str, _⟩ => k (.int .i64 s.size)
      | _ => False)
    | [_], [t] => (match tl τ t with
      | some ⟨_, .arr n _ _ _, _⟩ => k (.int .i64 n)
      | _ => False)
    | _, _ => False
  | .call { callee := .builtin .cap, args := av, argTypes := ts } => roAll σ av.toList fun vs => match vs, ts.toList with
    | [.slice _ _ c], [t] => (match tl τ t with
      | some ⟨_, .slice _ _ _, _⟩ => k (.int .i64 c)
      | _ => False)
    | _, _ => False
  | .call { callee := .builtin .min, args := av, argTypes := _ } => roAll σ av.toList fun vs => match vs with
    | [.int .i64 x, .int .i64 y] => k (.int .i64 (if y < x then y else x))
    | _ => False
  | .call { callee := .builtin .max, args := av, argTypes := _ } => roAll σ av.toList fun vs => match vs with
    | [.int .i64 x, .int .i64 y] => k (.int .i64 (if y > x then y else x))
    | _ => False
  | .convert s d x => match ro σ x with
    | some (.int q n) => PureC P (Go.convert s d (.int q n)) k
    | some (.string v) => PureC P (Go.convert s d (.string v)) k
    | _ => False
  | .slice t x none none none => match ro σ x, tl τ t with
    | some (.pointer (some ⟨b, o, none⟩)), some ⟨_, .arr n _ _ _, _⟩ => (match Nat.beq n 0 with
      | true => False
      | false => k (.slice (some ⟨b, o, none⟩) n n))
    | _, _ => False
  | .slice t x lo hi mx => match ro σ x, (lo.elim (some none) fun y => (ro σ y).map some), (hi.elim (some none) fun y => (ro σ y).map some), (mx.elim (some none) fun y => (ro σ y).map some) with
    | some vx, some vl, some vh, some vm => PureC P (Instr.sliceAt t vx vl vh vm) k
    | _, _, _, _ => False
  | _ => False

end Go.Proofs.YtgcbcagaibecbaaGreatDoor.Ev
