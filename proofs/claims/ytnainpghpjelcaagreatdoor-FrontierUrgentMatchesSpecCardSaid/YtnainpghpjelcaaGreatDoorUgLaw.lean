/-
  FRONTIER: FrontierUrgentMatchesSpec: the tied card.
-/
import Derived.Test.YtnainpghpjelcaaGreatDoorUgLawB
import Derived.Test.YtnainpghpjelcaaGreatDoorLwCard
import Derived.Test.YtnainpghpjelcaaGreatDoorCards
import Derived.Test.YtnainpghpjelcaaGreatDoorTie
import Derived.Stop.LaidErr
import Derived.Lib.LaidTab
set_option linter.unusedSimpArgs false
set_option linter.unusedVariables false
namespace Go.Proofs.YtnainpghpjelcaaGreatDoor
open Go.Lw Go.RowKit Go.ChangeShapes Go.WideShapes Go.ChangeAt
set_option maxRecDepth 100000
set_option maxHeartbeats 1000000
/-- The given statement. -/
theorem frontierUrgentMatchesSpec_proved : Rows.FrontierUrgentMatchesSpecCardSaid :=
  Claim7.holds_tied_plain_at .later [] Rows.frontierUrgentMatchesSpecCard.laidKinds true Rows.frontierUrgentMatchesSpecCard.stood.harness Rows.frontierUrgentMatchesSpecCard.stood.looks overFrontierUrgentMatchesSpec (fun _ h => by cases h) (by kernel_rfl) (fun _ h => by cases h) frontierUrgentMatchesSpec_row_tie rfl ⟨rfl, rfl⟩ card_main rfl
    (fun f fn hf hfn => by
      obtain rfl : f = 10 := Option.some.inj (card_named.symm.trans hf) |>.symm
      obtain rfl : fn = Tryz.f10 := (Option.some.inj (Tryz.func10.symm.trans hfn)).symm
      exact ⟨by kernel_rfl, fun j t ht => by
        have hall : (Tryz.f10.params.toList.all fun u => !Tryz.prog.wantsStandIn u) = true := by kernel_rfl
        exact (show Tryz.prog.wantsStandIn t = false by simpa using List.all_eq_true.1 hall t (by simpa using Array.mem_of_getElem? ht))⟩)
    (by kernel_rfl)
#print axioms frontierUrgentMatchesSpec_proved
end Go.Proofs.YtnainpghpjelcaaGreatDoor
