/-
  ADDRESS: AddressScopesMatchSpec: the tied card.
-/
import Derived.Test.YtglonkenckigiaaGreatDoorAdLaw12B
import Derived.Test.YtglonkenckigiaaGreatDoorLwCard
import Derived.Test.YtglonkenckigiaaGreatDoorCards
import Derived.Test.YtglonkenckigiaaGreatDoorTie
import Derived.Stop.LaidErr
import Derived.Lib.LaidTab
set_option linter.unusedSimpArgs false
set_option linter.unusedVariables false
namespace Go.Proofs.YtglonkenckigiaaGreatDoor
open Go.Lw Go.RowKit Go.ChangeShapes Go.WideShapes Go.ChangeAt
set_option maxRecDepth 100000
set_option maxHeartbeats 1000000
/-- The given statement. -/
theorem addressScopesMatchSpec_proved : Rows.AddressScopesMatchSpecCardSaid :=
  Claim7.holds_tied_plain_at .later [] Rows.addressScopesMatchSpecCard.laidKinds true Rows.addressScopesMatchSpecCard.stood.harness Rows.addressScopesMatchSpecCard.stood.looks overAddressScopesMatchSpec (fun _ h => by cases h) (by kernel_rfl) (fun _ h => by cases h) addressScopesMatchSpec_row_tie rfl ⟨rfl, rfl⟩ (by kernel_rfl) rfl
    (fun f fn hf hfn => by
      obtain rfl : f = 10 := Option.some.inj ((show Tryz.prog.funcNamed Rows.addressScopesMatchSpecRow.func = some 10 by kernel_rfl).symm.trans hf) |>.symm
      obtain rfl : fn = Tryz.f10 := (Option.some.inj (Tryz.func10.symm.trans hfn)).symm
      exact ⟨by kernel_rfl, fun j t ht => by
        have hall : (Tryz.f10.params.toList.all fun u => !Tryz.prog.wantsStandIn u) = true := by kernel_rfl
        exact (show Tryz.prog.wantsStandIn t = false by simpa using List.all_eq_true.1 hall t (by simpa using Array.mem_of_getElem? ht))⟩)
    (by kernel_rfl)
#print axioms addressScopesMatchSpec_proved
end Go.Proofs.YtglonkenckigiaaGreatDoor
