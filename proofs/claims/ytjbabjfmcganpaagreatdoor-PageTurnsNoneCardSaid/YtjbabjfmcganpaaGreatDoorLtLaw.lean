/-
  PageTurnsNone: the tied card.
-/
import Derived.Test.YtjbabjfmcganpaaGreatDoorLtLawB
import Derived.Test.YtjbabjfmcganpaaGreatDoorLwCard
import Derived.Test.YtjbabjfmcganpaaGreatDoorCards
import Derived.Test.YtjbabjfmcganpaaGreatDoorTie
set_option linter.unusedSimpArgs false
set_option linter.unusedVariables false
namespace Go.Proofs.YtjbabjfmcganpaaGreatDoor
open Go.Lw Go.RowKit Go.ChangeShapes Go.WideShapes Go.ChangeAt
set_option maxRecDepth 100000
set_option maxHeartbeats 1000000
/-- The given statement. -/
theorem pageTurnsNone_proved : Rows.PageTurnsNoneCardSaid :=
  Claim7.holds_tied_plain_at .later [] Rows.pageTurnsNoneCard.laidKinds true Rows.pageTurnsNoneCard.stood.harness Rows.pageTurnsNoneCard.stood.looks overPageTurnsNone (fun _ h => by cases h) (by kernel_rfl) (fun _ h => by cases h) pageTurnsNone_row_tie rfl ⟨rfl, rfl⟩ card_main rfl
    (fun f fn hf hfn => by
      obtain rfl : f = 4 := Option.some.inj (card_named.symm.trans hf) |>.symm
      obtain rfl : fn = Tryz.f4 := (Option.some.inj (Tryz.func4.symm.trans hfn)).symm
      exact ⟨by kernel_rfl, fun j t ht => by
        have hall : (Tryz.f4.params.toList.all fun u => !Tryz.prog.wantsStandIn u) = true := by kernel_rfl
        exact (show Tryz.prog.wantsStandIn t = false by simpa using List.all_eq_true.1 hall t (by simpa using Array.mem_of_getElem? ht))⟩)
    (by kernel_rfl)
#print axioms pageTurnsNone_proved
end Go.Proofs.YtjbabjfmcganpaaGreatDoor
