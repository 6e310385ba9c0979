/-
  The law WorldMirrors holds: whatever arguments can be read, the call returns true and leaves them as they were; the variables that the row lists start as the program's text lays them (the card ties them).
-/
import Derived.Test.YtoaghhcjlfiflaaGreatDoorWorldMirrorsH
import Derived.Test.YtoaghhcjlfiflaaGreatDoorTie
import Derived.Test.YtoaghhcjlfiflaaGreatDoorCards
import Derived.LaidMore
import Derived.SevenTiedAt
namespace Go.Proofs.YtoaghhcjlfiflaaGreatDoor.lawWorldMirrors
open Go Go.Proofs.YtoaghhcjlfiflaaGreatDoor.Ev Go.ChangeShapes Go.WideShapes Go.ChangeAt Go.RowKit

theorem own : ownKnob Tryz.prog.godebug = none := by kernel_rfl
theorem bool_ : Tryz.prog.underlying 4 = some .bool := by kernel_rfl
theorem laidOut : laidOutB Tryz.prog = true := by kernel_rfl
theorem door_met (os : Os) (args : Array Value) : laidMetH Tryz.prog [("twinrampart/api.ErrBound", Rows.laid_twinrampart_api_ErrBound), ("twinrampart/api.ErrShape", Rows.laid_twinrampart_api_ErrShape), ("twinrampart/api.ErrNone", Rows.laid_twinrampart_api_ErrNone), ("twinrampart/api.ErrExist", Rows.laid_twinrampart_api_ErrExist), ("twinrampart/api.ErrFull", Rows.laid_twinrampart_api_ErrFull), ("twinrampart/api.ErrOff", Rows.laid_twinrampart_api_ErrOff), ("twinrampart/api.ErrDeny", Rows.laid_twinrampart_api_ErrDeny), ("twinrampart/api.ErrState", Rows.laid_twinrampart_api_ErrState), ("twinrampart/api.ErrOld", Rows.laid_twinrampart_api_ErrOld), ("twinrampart/api.ErrHeld", Rows.laid_twinrampart_api_ErrHeld)] ((World.doorLaid Tryz.prog 400 os).forCall (fun _ _ => 0) ⟨#[], args, []⟩).memory :=
  laidMetH_of_parts3 (fuel := 8) (laidMet_of_run' 8 (by kernel_rfl) (by kernel_rfl)) (by kernel_rfl) (by kernel_rfl)

set_option maxRecDepth 100000 in
theorem witness (os : Os) (H : Type) (enc : TypeId × Value → H) : ∃ (w : World) (tape : Tape) (i : Input), w.os = os ∧ (w.forCall tape i).Shaped Tryz.checked.prog ∧ i.vars = [] ∧ Input.okWide Tryz.checked.prog (w.forCall tape i) .any w.heap.size 5 i ∧
      ((Rows.worldMirrorsSpec.pre enc Tryz.checked.prog Tryz.f5 [] false (w.forCall tape i).memory i.args ∧ laidMetH Tryz.checked.prog [("twinrampart/api.ErrBound", Rows.laid_twinrampart_api_ErrBound), ("twinrampart/api.ErrShape", Rows.laid_twinrampart_api_ErrShape), ("twinrampart/api.ErrNone", Rows.laid_twinrampart_api_ErrNone), ("twinrampart/api.ErrExist", Rows.laid_twinrampart_api_ErrExist), ("twinrampart/api.ErrFull", Rows.laid_twinrampart_api_ErrFull), ("twinrampart/api.ErrOff", Rows.laid_twinrampart_api_ErrOff), ("twinrampart/api.ErrDeny", Rows.laid_twinrampart_api_ErrDeny), ("twinrampart/api.ErrState", Rows.laid_twinrampart_api_ErrState), ("twinrampart/api.ErrOld", Rows.laid_twinrampart_api_ErrOld), ("twinrampart/api.ErrHeld", Rows.laid_twinrampart_api_ErrHeld)] (w.forCall tape i).memory) ∧ sizedMet enc Tryz.checked.prog Tryz.f5 (OpenSpec.ofChange Rows.worldMirrorsSpec) false (w.forCall tape i).memory i.args) ∧ ({} : Assume).holds Tryz.checked.prog (lone (Frame.enter Tryz.checked.prog 5 i.args .normal) [] (w.forCall tape i)) :=
  ChangeSpec.witness_shaped (enc := enc) (C := Tryz.checked) (os := os) (fn := Tryz.f5) (X := fun w _ => laidMetH Tryz.prog [("twinrampart/api.ErrBound", Rows.laid_twinrampart_api_ErrBound), ("twinrampart/api.ErrShape", Rows.laid_twinrampart_api_ErrShape), ("twinrampart/api.ErrNone", Rows.laid_twinrampart_api_ErrNone), ("twinrampart/api.ErrExist", Rows.laid_twinrampart_api_ErrExist), ("twinrampart/api.ErrFull", Rows.laid_twinrampart_api_ErrFull), ("twinrampart/api.ErrOff", Rows.laid_twinrampart_api_ErrOff), ("twinrampart/api.ErrDeny", Rows.laid_twinrampart_api_ErrDeny), ("twinrampart/api.ErrState", Rows.laid_twinrampart_api_ErrState), ("twinrampart/api.ErrOld", Rows.laid_twinrampart_api_ErrOld), ("twinrampart/api.ErrHeld", Rows.laid_twinrampart_api_ErrHeld)] w) false (World.doorLaid Tryz.prog 400 os) #[.slice none 0 0, .slice none 0 0, .int .i64 0] 8 rfl (World.shaped_of_RefB (by kernel_rfl) (by kernel_rfl)) (by kernel_rfl) (by kernel_rfl) (by kernel_rfl) (door_met os _)

theorem lifted (os : Os) (started : os.Started) (H : Type) (enc : TypeId × Value → H) :
    ReturnsInHanded {} Tryz.checked os 5 .any (fun w args => (Rows.worldMirrorsSpec.pre enc Tryz.prog Tryz.f5 [] false w args ∧ laidMetH Tryz.prog [("twinrampart/api.ErrBound", Rows.laid_twinrampart_api_ErrBound), ("twinrampart/api.ErrShape", Rows.laid_twinrampart_api_ErrShape), ("twinrampart/api.ErrNone", Rows.laid_twinrampart_api_ErrNone), ("twinrampart/api.ErrExist", Rows.laid_twinrampart_api_ErrExist), ("twinrampart/api.ErrFull", Rows.laid_twinrampart_api_ErrFull), ("twinrampart/api.ErrOff", Rows.laid_twinrampart_api_ErrOff), ("twinrampart/api.ErrDeny", Rows.laid_twinrampart_api_ErrDeny), ("twinrampart/api.ErrState", Rows.laid_twinrampart_api_ErrState), ("twinrampart/api.ErrOld", Rows.laid_twinrampart_api_ErrOld), ("twinrampart/api.ErrHeld", Rows.laid_twinrampart_api_ErrHeld)] w) ∧ sizedMet enc Tryz.prog Tryz.f5 (OpenSpec.ofChange Rows.worldMirrorsSpec) false w args)
      (Rows.worldMirrorsSpec.post enc Tryz.prog Tryz.f5 false true false false) :=
  law_lifted (C := Tryz.checked) (s := Rows.worldMirrorsSpec) (tb := 4) [("twinrampart/api.ErrBound", Rows.laid_twinrampart_api_ErrBound), ("twinrampart/api.ErrShape", Rows.laid_twinrampart_api_ErrShape), ("twinrampart/api.ErrNone", Rows.laid_twinrampart_api_ErrNone), ("twinrampart/api.ErrExist", Rows.laid_twinrampart_api_ErrExist), ("twinrampart/api.ErrFull", Rows.laid_twinrampart_api_ErrFull), ("twinrampart/api.ErrOff", Rows.laid_twinrampart_api_ErrOff), ("twinrampart/api.ErrDeny", Rows.laid_twinrampart_api_ErrDeny), ("twinrampart/api.ErrState", Rows.laid_twinrampart_api_ErrState), ("twinrampart/api.ErrOld", Rows.laid_twinrampart_api_ErrOld), ("twinrampart/api.ErrHeld", Rows.laid_twinrampart_api_ErrHeld)] os started H enc own rfl (by kernel_rfl) Tryz.func5 rfl
    (fun ds hds => by
      rw [Tryz.params5] at hds
      match ds, hds with
      | [d0, d1, d2], _ => exact ⟨rfl, rfl, rfl⟩)
    rfl bool_ laidOut (by kernel_rfl) (witness os H enc)
    (fun W args ha hl => by
      rw [Tryz.params5] at ha
      obtain ⟨E, hE⟩ := errs_of [2,3,4,5,6,7,8,9,10,11] rfl hl (by
        intro k hk
        simp only [List.mem_cons, List.not_mem_nil, or_false] at hk
        rcases hk with rfl | rfl | rfl | rfl | rfl | rfl | rfl | rfl | rfl | rfl
        all_goals (repeat (first | exact List.Mem.head _ | apply List.Mem.tail)))
      exact worldMirrors_walk W args hE ha)

theorem holds : Rows.WorldMirrorsSaid :=
  OpenClaim.holds_of_wide 5 Tryz.f5 rfl rfl rfl rfl rfl rfl rfl ⟨rfl, rfl, rfl, rfl, rfl⟩ rfl rfl rfl rfl rfl (by kernel_rfl) Tryz.func5 (by kernel_rfl)
    (of_decide_eq_true (by kernel_rfl)) (by unfold Func.isWrapper; first | (rw [if_pos (by decide +kernel)]; kernel_rfl) | (rw [if_neg (by decide +kernel)]; exact ⟨rfl, rfl⟩))
    (fun os started H enc _ => lifted os started H enc)

theorem card_holds : Rows.WorldMirrorsCardSaid :=
  Claim7.holds_tied_plain_at .later [] [.sentinel, .sentinel, .sentinel, .sentinel, .sentinel, .sentinel, .sentinel, .sentinel, .sentinel, .sentinel] true (true, "32439de7d5072ffc5df19b9851d2a7eb0083f5f4572839dc0078fa8504fa5ec5") true
    holds (fun _ h => by cases h) (by kernel_rfl) (fun _ h => by cases h) worldMirrors_row_tie rfl ⟨rfl, rfl⟩ (by kernel_rfl) rfl
    (fun f fn hf hfn => by
      obtain rfl : f = 5 := Option.some.inj ((show Tryz.prog.funcNamed "twinrampart/twinrampartlaw3.WorldMirrors" = some 5 by kernel_rfl).symm.trans hf) |>.symm
      obtain rfl : fn = Tryz.f5 := (Option.some.inj (Tryz.func5.symm.trans hfn)).symm
      refine ⟨by kernel_rfl, fun j t ht => ?_⟩
      have hall : (Tryz.f5.params.toList.all fun t => !Tryz.prog.wantsStandIn t) = true := by kernel_rfl
      have hm : t ∈ Tryz.f5.params.toList := by simpa using Array.mem_of_getElem? ht
      show Tryz.prog.wantsStandIn t = false
      simpa using List.all_eq_true.1 hall t hm)
    (by kernel_rfl)
#print axioms card_holds
end Go.Proofs.YtoaghhcjlfiflaaGreatDoor.lawWorldMirrors
