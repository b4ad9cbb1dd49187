/-
  ADDRESS: AddressOfKeysMatchSpec: the tied card.
-/
import Derived.Test.YtglonkenckigiaaGreatDoorAdLaw10B
import Derived.Test.YtglonkenckigiaaGreatDoorLwCard
import Derived.Test.YtglonkenckigiaaGreatDoorCards
import Derived.Test.YtglonkenckigiaaGreatDoorTie
import Derived.Stop.LaidErr
import Derived.Lib.LaidTab
set_option linter.unusedSimpArgs false
set_option linter.unusedVariables false
namespace Go.Proofs.YtglonkenckigiaaGreatDoor
open Go.Lw Go.RowKit Go.ChangeShapes Go.WideShapes Go.ChangeAt
set_option maxRecDepth 100000
set_option maxHeartbeats 1000000
/-- The given statement. -/
theorem addressOfKeysMatchSpec_proved : Rows.AddressOfKeysMatchSpecCardSaid :=
  Claim7.holds_tied_plain_at .later [] Rows.addressOfKeysMatchSpecCard.laidKinds true Rows.addressOfKeysMatchSpecCard.stood.harness Rows.addressOfKeysMatchSpecCard.stood.looks overAddressOfKeysMatchSpec (fun _ h => by cases h) (by kernel_rfl) (fun _ h => by cases h) addressOfKeysMatchSpec_row_tie rfl ⟨rfl, rfl⟩ (by kernel_rfl) rfl
    (fun f fn hf hfn => by
      obtain rfl : f = 9 := Option.some.inj ((show Tryz.prog.funcNamed Rows.addressOfKeysMatchSpecRow.func = some 9 by kernel_rfl).symm.trans hf) |>.symm
      obtain rfl : fn = Tryz.f9 := (Option.some.inj (Tryz.func9.symm.trans hfn)).symm
      exact ⟨by kernel_rfl, fun j t ht => by
        have hall : (Tryz.f9.params.toList.all fun u => !Tryz.prog.wantsStandIn u) = true := by kernel_rfl
        exact (show Tryz.prog.wantsStandIn t = false by simpa using List.all_eq_true.1 hall t (by simpa using Array.mem_of_getElem? ht))⟩)
    (by kernel_rfl)
#print axioms addressOfKeysMatchSpec_proved
end Go.Proofs.YtglonkenckigiaaGreatDoor
