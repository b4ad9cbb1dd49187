/-
  FRONTIER: FrontierTrapsMatchSpec: the tied card.
-/
import Derived.Test.YtnainpghpjelcaaGreatDoorTrLawA
import Derived.Test.YtnainpghpjelcaaGreatDoorLwCard
import Derived.Test.YtnainpghpjelcaaGreatDoorCards
import Derived.Test.YtnainpghpjelcaaGreatDoorTie
import Derived.Stop.LaidErr
import Derived.Lib.LaidTab
set_option linter.unusedSimpArgs false
set_option linter.unusedVariables false
namespace Go.Proofs.YtnainpghpjelcaaGreatDoor
open Go.Lw Go.RowKit Go.ChangeShapes Go.WideShapes Go.ChangeAt
set_option maxRecDepth 100000
set_option maxHeartbeats 1000000
theorem joined_inPlace : (Rows.frontierTrapsMatchSpecRow.inPlace == Tryz.pinned.checked.prog.inPlace 5) = true := by kernel_rfl
theorem joined_unfollowed : (Rows.frontierTrapsMatchSpecRow.unfollowed == Tryz.pinned.checked.prog.unfollowed 5) = true := by kernel_rfl
theorem joined_recurses : (Rows.frontierTrapsMatchSpecRow.recurses == Tryz.pinned.checked.prog.recurses 5) = true := by kernel_rfl
theorem joined_named : (Rows.frontierTrapsMatchSpecRow.named == Tryz.pinned.checked.prog.varsNamed 5) = true := by kernel_rfl
theorem joined_all : joinedFacts Tryz.pinned.checked.prog 5 Tryz.f5 Rows.frontierTrapsMatchSpecSpec Rows.frontierTrapsMatchSpecRow = true := by
  unfold joinedFacts
  rw [joined_inPlace, joined_unfollowed, joined_recurses, joined_named]
  kernel_rfl
theorem overFrontierTrapsMatchSpec : Rows.frontierTrapsMatchSpecRow.holds Tryz.pinned (OpenSpec.ofChange Rows.frontierTrapsMatchSpecSpec) :=
  OpenClaim.holds_of_wide 5 Tryz.f5 rfl rfl rfl rfl rfl rfl rfl ⟨rfl, rfl, rfl, rfl, rfl⟩ rfl rfl rfl rfl rfl (by kernel_rfl) Tryz.func5 joined_all
    (of_decide_eq_true (by kernel_rfl)) (by unfold Func.isWrapper; first | (rw [if_pos (by decide +kernel)]; kernel_rfl) | (rw [if_neg (by decide +kernel)]; exact ⟨rfl, rfl⟩))
    (fun os started H enc _ => liftedFrontierTrapsMatchSpec os started H enc)
end Go.Proofs.YtnainpghpjelcaaGreatDoor
