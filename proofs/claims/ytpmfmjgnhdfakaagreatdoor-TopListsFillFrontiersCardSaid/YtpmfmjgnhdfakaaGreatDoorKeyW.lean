/-
  CHAPTER 1's REFERENCE: paths of keys by rules. (WITH run_drawN.)
-/
import Derived.Test.YtpmfmjgnhdfakaaGreatDoorKeyV
set_option linter.unusedSimpArgs false
set_option linter.unusedVariables false
namespace Go.Proofs.YtpmfmjgnhdfakaaGreatDoor
open Go.Lw Go.RowKit
set_option maxRecDepth 100000
set_option maxHeartbeats 1000000

end Go.Proofs.YtpmfmjgnhdfakaaGreatDoor
