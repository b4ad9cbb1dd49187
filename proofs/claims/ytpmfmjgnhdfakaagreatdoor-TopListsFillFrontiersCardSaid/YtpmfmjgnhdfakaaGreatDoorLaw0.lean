/-
  What every law's proof leans on: the program's form, strings as arguments.
-/
import Derived.Test.YtpmfmjgnhdfakaaGreatDoorLibS
import Derived.Test.YtpmfmjgnhdfakaaGreatDoorLwCard
set_option linter.unusedSimpArgs false
set_option linter.unusedVariables false
namespace Go.Proofs.YtpmfmjgnhdfakaaGreatDoor
open Go.Lw Go.RowKit Go.ChangeShapes Go.WideShapes Go.ChangeAt
set_option maxRecDepth 100000
set_option maxHeartbeats 1000000

theorem own : ownKnob Tryz.prog.godebug = none := by kernel_rfl
theorem laidOut : laidOutB Tryz.prog = true := by kernel_rfl
end Go.Proofs.YtpmfmjgnhdfakaaGreatDoor
