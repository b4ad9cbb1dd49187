/-
  ADDRESS: AddressScopesMatchSpec: the tied card.
-/
import Derived.Test.YtglonkenckigiaaGreatDoorAdLaw12A
import Derived.Test.YtglonkenckigiaaGreatDoorLwCard
import Derived.Test.YtglonkenckigiaaGreatDoorCards
import Derived.Test.YtglonkenckigiaaGreatDoorTie
import Derived.Stop.LaidErr
import Derived.Lib.LaidTab
set_option linter.unusedSimpArgs false
set_option linter.unusedVariables false
namespace Go.Proofs.YtglonkenckigiaaGreatDoor
open Go.Lw Go.RowKit Go.ChangeShapes Go.WideShapes Go.ChangeAt
set_option maxRecDepth 100000
set_option maxHeartbeats 1000000
theorem joined_inPlace : (Rows.addressScopesMatchSpecRow.inPlace == Tryz.pinned.checked.prog.inPlace 10) = true := by kernel_rfl
theorem joined_unfollowed : (Rows.addressScopesMatchSpecRow.unfollowed == Tryz.pinned.checked.prog.unfollowed 10) = true := by kernel_rfl
theorem joined_recurses : (Rows.addressScopesMatchSpecRow.recurses == Tryz.pinned.checked.prog.recurses 10) = true := by kernel_rfl
theorem joined_named : (Rows.addressScopesMatchSpecRow.named == Tryz.pinned.checked.prog.varsNamed 10) = true := by kernel_rfl
theorem joined_all : joinedFacts Tryz.pinned.checked.prog 10 Tryz.f10 Rows.addressScopesMatchSpecSpec Rows.addressScopesMatchSpecRow = true := by
  unfold joinedFacts
  rw [joined_inPlace, joined_unfollowed, joined_recurses, joined_named]
  kernel_rfl
theorem overAddressScopesMatchSpec : Rows.addressScopesMatchSpecRow.holds Tryz.pinned (OpenSpec.ofChange Rows.addressScopesMatchSpecSpec) :=
  OpenClaim.holds_of_wide 10 Tryz.f10 rfl rfl rfl rfl rfl rfl rfl ⟨rfl, rfl, rfl, rfl, rfl⟩ rfl rfl rfl rfl rfl (by kernel_rfl) Tryz.func10 joined_all
    (of_decide_eq_true (by kernel_rfl)) (by unfold Func.isWrapper; first | (rw [if_pos (by decide +kernel)]; kernel_rfl) | (rw [if_neg (by decide +kernel)]; exact ⟨rfl, rfl⟩))
    (fun os started H enc _ => liftedAddressScopesMatchSpec os started H enc)
end Go.Proofs.YtglonkenckigiaaGreatDoor
