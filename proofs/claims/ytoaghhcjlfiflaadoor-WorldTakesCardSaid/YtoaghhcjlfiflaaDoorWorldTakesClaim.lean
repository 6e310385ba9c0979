/-
  The law WorldTakes holds: whatever arguments can be read, the call returns true and leaves them as they were; the variables that the row lists start as the program's text lays them (the card ties them).
-/
import Derived.Test.YtoaghhcjlfiflaaDoorWorldTakesG
import Derived.Test.YtoaghhcjlfiflaaDoorTie
import Derived.Test.YtoaghhcjlfiflaaDoorCards
import Derived.LaidMore
import Derived.SevenTiedAt
namespace Go.Proofs.YtoaghhcjlfiflaaDoor.lawWorldTakes
open Go Go.Proofs.YtoaghhcjlfiflaaDoor.Ev Go.ChangeShapes Go.WideShapes Go.ChangeAt Go.RowKit

theorem own : ownKnob Tryd.prog.godebug = none := by kernel_rfl
theorem bool_ : Tryd.prog.underlying 4 = some .bool := by kernel_rfl
theorem laidOut : laidOutB Tryd.prog = true := by kernel_rfl
theorem door_met (os : Os) (args : Array Value) : laidMetH Tryd.prog [("twinrampart/api.ErrBound", Rows.laid_twinrampart_api_ErrBound), ("twinrampart/api.ErrShape", Rows.laid_twinrampart_api_ErrShape), ("twinrampart/api.ErrNone", Rows.laid_twinrampart_api_ErrNone), ("twinrampart/api.ErrExist", Rows.laid_twinrampart_api_ErrExist), ("twinrampart/api.ErrFull", Rows.laid_twinrampart_api_ErrFull), ("twinrampart/api.ErrOff", Rows.laid_twinrampart_api_ErrOff), ("twinrampart/api.ErrDeny", Rows.laid_twinrampart_api_ErrDeny), ("twinrampart/api.ErrState", Rows.laid_twinrampart_api_ErrState), ("twinrampart/api.ErrOld", Rows.laid_twinrampart_api_ErrOld), ("twinrampart/api.ErrHeld", Rows.laid_twinrampart_api_ErrHeld)] ((World.doorLaid Tryd.prog 400 os).forCall (fun _ _ => 0) ⟨#[], args, []⟩).memory :=
  laidMetH_of_parts3 (fuel := 8) (laidMet_of_run' 8 (by kernel_rfl) (by kernel_rfl)) (by kernel_rfl) (by kernel_rfl)

set_option maxRecDepth 100000 in
theorem witness (os : Os) (H : Type) (enc : TypeId × Value → H) : ∃ (w : World) (tape : Tape) (i : Input), w.os = os ∧ (w.forCall tape i).Shaped Tryd.checked.prog ∧ i.vars = [] ∧ Input.okWide Tryd.checked.prog (w.forCall tape i) .any w.heap.size 3 i ∧
      ((Rows.worldTakesSpec.pre enc Tryd.checked.prog Tryd.f3 [] false (w.forCall tape i).memory i.args ∧ laidMetH Tryd.checked.prog [("twinrampart/api.ErrBound", Rows.laid_twinrampart_api_ErrBound), ("twinrampart/api.ErrShape", Rows.laid_twinrampart_api_ErrShape), ("twinrampart/api.ErrNone", Rows.laid_twinrampart_api_ErrNone), ("twinrampart/api.ErrExist", Rows.laid_twinrampart_api_ErrExist), ("twinrampart/api.ErrFull", Rows.laid_twinrampart_api_ErrFull), ("twinrampart/api.ErrOff", Rows.laid_twinrampart_api_ErrOff), ("twinrampart/api.ErrDeny", Rows.laid_twinrampart_api_ErrDeny), ("twinrampart/api.ErrState", Rows.laid_twinrampart_api_ErrState), ("twinrampart/api.ErrOld", Rows.laid_twinrampart_api_ErrOld), ("twinrampart/api.ErrHeld", Rows.laid_twinrampart_api_ErrHeld)] (w.forCall tape i).memory) ∧ sizedMet enc Tryd.checked.prog Tryd.f3 (OpenSpec.ofChange Rows.worldTakesSpec) false (w.forCall tape i).memory i.args) ∧ ({} : Assume).holds Tryd.checked.prog (lone (Frame.enter Tryd.checked.prog 3 i.args .normal) [] (w.forCall tape i)) :=
  ChangeSpec.witness_shaped (enc := enc) (C := Tryd.checked) (os := os) (fn := Tryd.f3) (X := fun w _ => laidMetH Tryd.prog [("twinrampart/api.ErrBound", Rows.laid_twinrampart_api_ErrBound), ("twinrampart/api.ErrShape", Rows.laid_twinrampart_api_ErrShape), ("twinrampart/api.ErrNone", Rows.laid_twinrampart_api_ErrNone), ("twinrampart/api.ErrExist", Rows.laid_twinrampart_api_ErrExist), ("twinrampart/api.ErrFull", Rows.laid_twinrampart_api_ErrFull), ("twinrampart/api.ErrOff", Rows.laid_twinrampart_api_ErrOff), ("twinrampart/api.ErrDeny", Rows.laid_twinrampart_api_ErrDeny), ("twinrampart/api.ErrState", Rows.laid_twinrampart_api_ErrState), ("twinrampart/api.ErrOld", Rows.laid_twinrampart_api_ErrOld), ("twinrampart/api.ErrHeld", Rows.laid_twinrampart_api_ErrHeld)] w) false (World.doorLaid Tryd.prog 400 os) #[.int .i64 0, .slice none 0 0, .agg #[.int .i64 0, .int .i64 0], .int .i64 0] 8 rfl (World.shaped_of_RefB (by kernel_rfl) (by kernel_rfl)) (by kernel_rfl) (by kernel_rfl) (by kernel_rfl) (door_met os _)

theorem lifted (os : Os) (started : os.Started) (H : Type) (enc : TypeId × Value → H) :
    ReturnsInHanded {} Tryd.checked os 3 .any (fun w args => (Rows.worldTakesSpec.pre enc Tryd.prog Tryd.f3 [] false w args ∧ laidMetH Tryd.prog [("twinrampart/api.ErrBound", Rows.laid_twinrampart_api_ErrBound), ("twinrampart/api.ErrShape", Rows.laid_twinrampart_api_ErrShape), ("twinrampart/api.ErrNone", Rows.laid_twinrampart_api_ErrNone), ("twinrampart/api.ErrExist", Rows.laid_twinrampart_api_ErrExist), ("twinrampart/api.ErrFull", Rows.laid_twinrampart_api_ErrFull), ("twinrampart/api.ErrOff", Rows.laid_twinrampart_api_ErrOff), ("twinrampart/api.ErrDeny", Rows.laid_twinrampart_api_ErrDeny), ("twinrampart/api.ErrState", Rows.laid_twinrampart_api_ErrState), ("twinrampart/api.ErrOld", Rows.laid_twinrampart_api_ErrOld), ("twinrampart/api.ErrHeld", Rows.laid_twinrampart_api_ErrHeld)] w) ∧ sizedMet enc Tryd.prog Tryd.f3 (OpenSpec.ofChange Rows.worldTakesSpec) false w args)
      (Rows.worldTakesSpec.post enc Tryd.prog Tryd.f3 false true false false) :=
  law_lifted (C := Tryd.checked) (s := Rows.worldTakesSpec) (tb := 4) [("twinrampart/api.ErrBound", Rows.laid_twinrampart_api_ErrBound), ("twinrampart/api.ErrShape", Rows.laid_twinrampart_api_ErrShape), ("twinrampart/api.ErrNone", Rows.laid_twinrampart_api_ErrNone), ("twinrampart/api.ErrExist", Rows.laid_twinrampart_api_ErrExist), ("twinrampart/api.ErrFull", Rows.laid_twinrampart_api_ErrFull), ("twinrampart/api.ErrOff", Rows.laid_twinrampart_api_ErrOff), ("twinrampart/api.ErrDeny", Rows.laid_twinrampart_api_ErrDeny), ("twinrampart/api.ErrState", Rows.laid_twinrampart_api_ErrState), ("twinrampart/api.ErrOld", Rows.laid_twinrampart_api_ErrOld), ("twinrampart/api.ErrHeld", Rows.laid_twinrampart_api_ErrHeld)] os started H enc own rfl (by kernel_rfl) Tryd.func3 rfl
    (fun ds hds => by
      rw [Tryd.params3] at hds
      match ds, hds with
      | [d0, d1, d2, d3], _ => exact ⟨rfl, rfl, rfl⟩)
    rfl bool_ laidOut (by kernel_rfl) (witness os H enc)
    (fun W args ha hl => by
      rw [Tryd.params3] at ha
      obtain ⟨E, hE⟩ := errs_of [2,3,4,5,6,7,8,9,10,11] rfl hl (by
        intro k hk
        simp only [List.mem_cons, List.not_mem_nil, or_false] at hk
        rcases hk with rfl | rfl | rfl | rfl | rfl | rfl | rfl | rfl | rfl | rfl
        all_goals (repeat (first | exact List.Mem.head _ | apply List.Mem.tail)))
      exact worldTakes_walk W args hE ha)

theorem holds : Rows.WorldTakesSaid :=
  OpenClaim.holds_of_wide 3 Tryd.f3 rfl rfl rfl rfl rfl rfl rfl ⟨rfl, rfl, rfl, rfl, rfl⟩ rfl rfl rfl rfl rfl (by kernel_rfl) Tryd.func3 (by kernel_rfl)
    (of_decide_eq_true (by kernel_rfl)) (by unfold Func.isWrapper; first | (rw [if_pos (by decide +kernel)]; kernel_rfl) | (rw [if_neg (by decide +kernel)]; exact ⟨rfl, rfl⟩))
    (fun os started H enc _ => lifted os started H enc)

theorem card_holds : Rows.WorldTakesCardSaid :=
  Claim7.holds_tied_plain_at .later [] [.sentinel, .sentinel, .sentinel, .sentinel, .sentinel, .sentinel, .sentinel, .sentinel, .sentinel, .sentinel] true (true, "4198a224178361eab129480e23fe741aa709866fe0bb34f22625819d5efd6f11") false
    holds (fun _ h => by cases h) (by kernel_rfl) (fun _ h => by cases h) worldTakes_row_tie rfl ⟨rfl, rfl⟩ (by kernel_rfl) rfl
    (fun f fn hf hfn => by
      obtain rfl : f = 3 := Option.some.inj ((show Tryd.prog.funcNamed "twinrampart/twinrampartlaw3.WorldTakes" = some 3 by kernel_rfl).symm.trans hf) |>.symm
      obtain rfl : fn = Tryd.f3 := (Option.some.inj (Tryd.func3.symm.trans hfn)).symm
      refine ⟨by kernel_rfl, fun j t ht => ?_⟩
      have hall : (Tryd.f3.params.toList.all fun t => !Tryd.prog.wantsStandIn t) = true := by kernel_rfl
      have hm : t ∈ Tryd.f3.params.toList := by simpa using Array.mem_of_getElem? ht
      show Tryd.prog.wantsStandIn t = false
      simpa using List.all_eq_true.1 hall t hm)
    (by kernel_rfl)
#print axioms card_holds
end Go.Proofs.YtoaghhcjlfiflaaDoor.lawWorldTakes
