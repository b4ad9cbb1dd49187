/-
  FRONTIER: frontiers that are the same (reference's Same, at one and the same frontier). (WITH run_drawN.)
-/
import Derived.Test.YtnainpghpjelcaaGreatDoorFnT
set_option linter.unusedSimpArgs false
set_option linter.unusedVariables false
namespace Go.Proofs.YtnainpghpjelcaaGreatDoor
open Go.Lw Go.RowKit
set_option maxRecDepth 100000
set_option maxHeartbeats 2000000

end Go.Proofs.YtnainpghpjelcaaGreatDoor
