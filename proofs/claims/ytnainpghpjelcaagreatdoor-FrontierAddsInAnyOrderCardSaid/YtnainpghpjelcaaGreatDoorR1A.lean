/-
  CHAPTER 1's REFERENCE: bytes, labels, hosts. (WITH run_drawN.)
-/
import Derived.Test.YtnainpghpjelcaaGreatDoorAdW
set_option linter.unusedSimpArgs false
set_option linter.unusedVariables false
namespace Go.Proofs.YtnainpghpjelcaaGreatDoor
open Go.Lw Go.RowKit
set_option maxRecDepth 100000
set_option maxHeartbeats 1000000

end Go.Proofs.YtnainpghpjelcaaGreatDoor
