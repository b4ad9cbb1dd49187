/-
  FRONTIER: FrontierTextsMatchSpec: the tied card.
-/
import Derived.Test.YtnainpghpjelcaaGreatDoorFtLawA
import Derived.Test.YtnainpghpjelcaaGreatDoorLwCard
import Derived.Test.YtnainpghpjelcaaGreatDoorCards
import Derived.Test.YtnainpghpjelcaaGreatDoorTie
import Derived.Stop.LaidErr
import Derived.Lib.LaidTab
set_option linter.unusedSimpArgs false
set_option linter.unusedVariables false
namespace Go.Proofs.YtnainpghpjelcaaGreatDoor
open Go.Lw Go.RowKit Go.ChangeShapes Go.WideShapes Go.ChangeAt
set_option maxRecDepth 100000
set_option maxHeartbeats 1000000
theorem joined_inPlace : (Rows.frontierTextsMatchSpecRow.inPlace == Tryz.pinned.checked.prog.inPlace 8) = true := by kernel_rfl
theorem joined_unfollowed : (Rows.frontierTextsMatchSpecRow.unfollowed == Tryz.pinned.checked.prog.unfollowed 8) = true := by kernel_rfl
theorem joined_recurses : (Rows.frontierTextsMatchSpecRow.recurses == Tryz.pinned.checked.prog.recurses 8) = true := by kernel_rfl
theorem joined_named : (Rows.frontierTextsMatchSpecRow.named == Tryz.pinned.checked.prog.varsNamed 8) = true := by kernel_rfl
theorem joined_all : joinedFacts Tryz.pinned.checked.prog 8 Tryz.f8 Rows.frontierTextsMatchSpecSpec Rows.frontierTextsMatchSpecRow = true := by
  unfold joinedFacts
  rw [joined_inPlace, joined_unfollowed, joined_recurses, joined_named]
  kernel_rfl
theorem overFrontierTextsMatchSpec : Rows.frontierTextsMatchSpecRow.holds Tryz.pinned (OpenSpec.ofChange Rows.frontierTextsMatchSpecSpec) :=
  OpenClaim.holds_of_wide 8 Tryz.f8 rfl rfl rfl rfl rfl rfl rfl ⟨rfl, rfl, rfl, rfl, rfl⟩ rfl rfl rfl rfl rfl (by kernel_rfl) Tryz.func8 joined_all
    (of_decide_eq_true (by kernel_rfl)) (by unfold Func.isWrapper; first | (rw [if_pos (by decide +kernel)]; kernel_rfl) | (rw [if_neg (by decide +kernel)]; exact ⟨rfl, rfl⟩))
    (fun os started H enc _ => liftedFrontierTextsMatchSpec os started H enc)
end Go.Proofs.YtnainpghpjelcaaGreatDoor
