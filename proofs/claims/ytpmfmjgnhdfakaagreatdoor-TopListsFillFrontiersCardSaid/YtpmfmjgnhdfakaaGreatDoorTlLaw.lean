/-
  TopListsFillFrontiers: the tied card.
-/
import Derived.Test.YtpmfmjgnhdfakaaGreatDoorTlLawB
import Derived.Test.YtpmfmjgnhdfakaaGreatDoorLwCard
import Derived.Test.YtpmfmjgnhdfakaaGreatDoorCards
import Derived.Test.YtpmfmjgnhdfakaaGreatDoorTie
import Derived.Stop.LaidErr
import Derived.Lib.LaidTab
set_option linter.unusedSimpArgs false
set_option linter.unusedVariables false
namespace Go.Proofs.YtpmfmjgnhdfakaaGreatDoor
open Go.Lw Go.RowKit Go.ChangeShapes Go.WideShapes Go.ChangeAt
set_option maxRecDepth 100000
set_option maxHeartbeats 1000000
/-- The given statement. -/
theorem topListsFillFrontiers_proved : Rows.TopListsFillFrontiersCardSaid :=
  Claim7.holds_tied_plain_at .later [] Rows.topListsFillFrontiersCard.laidKinds true Rows.topListsFillFrontiersCard.stood.harness Rows.topListsFillFrontiersCard.stood.looks overTopListsFillFrontiers (fun _ h => by cases h) (by kernel_rfl) (fun _ h => by cases h) topListsFillFrontiers_row_tie rfl ⟨rfl, rfl⟩ card_main rfl
    (fun f fn hf hfn => by
      obtain rfl : f = 3 := Option.some.inj (card_named.symm.trans hf) |>.symm
      obtain rfl : fn = Tryz.f3 := (Option.some.inj (Tryz.func3.symm.trans hfn)).symm
      exact ⟨by kernel_rfl, fun j t ht => by
        have hall : (Tryz.f3.params.toList.all fun u => !Tryz.prog.wantsStandIn u) = true := by kernel_rfl
        exact (show Tryz.prog.wantsStandIn t = false by simpa using List.all_eq_true.1 hall t (by simpa using Array.mem_of_getElem? ht))⟩)
    (by kernel_rfl)
#print axioms topListsFillFrontiers_proved
end Go.Proofs.YtpmfmjgnhdfakaaGreatDoor
