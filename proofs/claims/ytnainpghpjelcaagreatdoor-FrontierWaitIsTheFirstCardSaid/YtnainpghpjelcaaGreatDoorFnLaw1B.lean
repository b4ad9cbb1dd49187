/-
  FRONTIER: FrontierWaitIsTheFirst: the tied card.
-/
import Derived.Test.YtnainpghpjelcaaGreatDoorFnLaw1A
import Derived.Test.YtnainpghpjelcaaGreatDoorLwCard
import Derived.Test.YtnainpghpjelcaaGreatDoorCards
import Derived.Test.YtnainpghpjelcaaGreatDoorTie
set_option linter.unusedSimpArgs false
set_option linter.unusedVariables false
namespace Go.Proofs.YtnainpghpjelcaaGreatDoor
open Go.Lw Go.RowKit Go.ChangeShapes Go.WideShapes Go.ChangeAt
set_option maxRecDepth 100000
set_option maxHeartbeats 1000000
theorem joined_inPlace : (Rows.frontierWaitIsTheFirstRow.inPlace == Tryz.pinned.checked.prog.inPlace 3) = true := by kernel_rfl
theorem joined_unfollowed : (Rows.frontierWaitIsTheFirstRow.unfollowed == Tryz.pinned.checked.prog.unfollowed 3) = true := by kernel_rfl
theorem joined_recurses : (Rows.frontierWaitIsTheFirstRow.recurses == Tryz.pinned.checked.prog.recurses 3) = true := by kernel_rfl
theorem joined_named : (Rows.frontierWaitIsTheFirstRow.named == Tryz.pinned.checked.prog.varsNamed 3) = true := by kernel_rfl
theorem joined_all : joinedFacts Tryz.pinned.checked.prog 3 Tryz.f3 Rows.frontierWaitIsTheFirstSpec Rows.frontierWaitIsTheFirstRow = true := by
  unfold joinedFacts
  rw [joined_inPlace, joined_unfollowed, joined_recurses, joined_named]
  kernel_rfl
theorem overFrontierWaitIsTheFirst : Rows.frontierWaitIsTheFirstRow.holds Tryz.pinned (OpenSpec.ofChange Rows.frontierWaitIsTheFirstSpec) :=
  OpenClaim.holds_of_wide 3 Tryz.f3 rfl rfl rfl rfl rfl rfl rfl ⟨rfl, rfl, rfl, rfl, rfl⟩ rfl rfl rfl rfl rfl (by kernel_rfl) Tryz.func3 joined_all
    (of_decide_eq_true (by kernel_rfl)) (by unfold Func.isWrapper; first | (rw [if_pos (by decide +kernel)]; kernel_rfl) | (rw [if_neg (by decide +kernel)]; exact ⟨rfl, rfl⟩))
    (fun os started H enc _ => liftedFrontierWaitIsTheFirst os started H enc)
end Go.Proofs.YtnainpghpjelcaaGreatDoor
