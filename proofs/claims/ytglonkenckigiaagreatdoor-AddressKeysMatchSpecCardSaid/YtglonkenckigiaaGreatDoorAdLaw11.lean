/-
  ADDRESS: AddressKeysMatchSpec: the tied card.
-/
import Derived.Test.YtglonkenckigiaaGreatDoorAdLaw11B
import Derived.Test.YtglonkenckigiaaGreatDoorLwCard
import Derived.Test.YtglonkenckigiaaGreatDoorCards
import Derived.Test.YtglonkenckigiaaGreatDoorTie
import Derived.Stop.LaidErr
import Derived.Lib.LaidTab
set_option linter.unusedSimpArgs false
set_option linter.unusedVariables false
namespace Go.Proofs.YtglonkenckigiaaGreatDoor
open Go.Lw Go.RowKit Go.ChangeShapes Go.WideShapes Go.ChangeAt
set_option maxRecDepth 100000
set_option maxHeartbeats 1000000
/-- The given statement. -/
theorem addressKeysMatchSpec_proved : Rows.AddressKeysMatchSpecCardSaid :=
  Claim7.holds_tied_plain_at .later [] Rows.addressKeysMatchSpecCard.laidKinds true Rows.addressKeysMatchSpecCard.stood.harness Rows.addressKeysMatchSpecCard.stood.looks overAddressKeysMatchSpec (fun _ h => by cases h) (by kernel_rfl) (fun _ h => by cases h) addressKeysMatchSpec_row_tie rfl ⟨rfl, rfl⟩ (by kernel_rfl) rfl
    (fun f fn hf hfn => by
      obtain rfl : f = 11 := Option.some.inj ((show Tryz.prog.funcNamed Rows.addressKeysMatchSpecRow.func = some 11 by kernel_rfl).symm.trans hf) |>.symm
      obtain rfl : fn = Tryz.f11 := (Option.some.inj (Tryz.func11.symm.trans hfn)).symm
      exact ⟨by kernel_rfl, fun j t ht => by
        have hall : (Tryz.f11.params.toList.all fun u => !Tryz.prog.wantsStandIn u) = true := by kernel_rfl
        exact (show Tryz.prog.wantsStandIn t = false by simpa using List.all_eq_true.1 hall t (by simpa using Array.mem_of_getElem? ht))⟩)
    (by kernel_rfl)
#print axioms addressKeysMatchSpec_proved
end Go.Proofs.YtglonkenckigiaaGreatDoor
