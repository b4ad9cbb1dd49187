/-
  ADDRESS: AddressKeysMatchSpec: the tied card.
-/
import Derived.Test.YtglonkenckigiaaGreatDoorAdLaw11A
import Derived.Test.YtglonkenckigiaaGreatDoorLwCard
import Derived.Test.YtglonkenckigiaaGreatDoorCards
import Derived.Test.YtglonkenckigiaaGreatDoorTie
import Derived.Stop.LaidErr
import Derived.Lib.LaidTab
set_option linter.unusedSimpArgs false
set_option linter.unusedVariables false
namespace Go.Proofs.YtglonkenckigiaaGreatDoor
open Go.Lw Go.RowKit Go.ChangeShapes Go.WideShapes Go.ChangeAt
set_option maxRecDepth 100000
set_option maxHeartbeats 1000000
theorem joined_inPlace : (Rows.addressKeysMatchSpecRow.inPlace == Tryz.pinned.checked.prog.inPlace 11) = true := by kernel_rfl
theorem joined_unfollowed : (Rows.addressKeysMatchSpecRow.unfollowed == Tryz.pinned.checked.prog.unfollowed 11) = true := by kernel_rfl
theorem joined_recurses : (Rows.addressKeysMatchSpecRow.recurses == Tryz.pinned.checked.prog.recurses 11) = true := by kernel_rfl
theorem joined_named : (Rows.addressKeysMatchSpecRow.named == Tryz.pinned.checked.prog.varsNamed 11) = true := by kernel_rfl
theorem joined_all : joinedFacts Tryz.pinned.checked.prog 11 Tryz.f11 Rows.addressKeysMatchSpecSpec Rows.addressKeysMatchSpecRow = true := by
  unfold joinedFacts
  rw [joined_inPlace, joined_unfollowed, joined_recurses, joined_named]
  kernel_rfl
theorem overAddressKeysMatchSpec : Rows.addressKeysMatchSpecRow.holds Tryz.pinned (OpenSpec.ofChange Rows.addressKeysMatchSpecSpec) :=
  OpenClaim.holds_of_wide 11 Tryz.f11 rfl rfl rfl rfl rfl rfl rfl ⟨rfl, rfl, rfl, rfl, rfl⟩ rfl rfl rfl rfl rfl (by kernel_rfl) Tryz.func11 joined_all
    (of_decide_eq_true (by kernel_rfl)) (by unfold Func.isWrapper; first | (rw [if_pos (by decide +kernel)]; kernel_rfl) | (rw [if_neg (by decide +kernel)]; exact ⟨rfl, rfl⟩))
    (fun os started H enc _ => liftedAddressKeysMatchSpec os started H enc)
end Go.Proofs.YtglonkenckigiaaGreatDoor
