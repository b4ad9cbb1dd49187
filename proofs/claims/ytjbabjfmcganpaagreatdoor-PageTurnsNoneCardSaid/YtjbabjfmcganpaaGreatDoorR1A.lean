/-
  CHAPTER 1's REFERENCE: bytes, labels, hosts. (WITH run_drawN.)
-/
import Derived.Test.YtjbabjfmcganpaaGreatDoorAdW
set_option linter.unusedSimpArgs false
set_option linter.unusedVariables false
namespace Go.Proofs.YtjbabjfmcganpaaGreatDoor
open Go.Lw Go.RowKit
set_option maxRecDepth 100000
set_option maxHeartbeats 1000000

end Go.Proofs.YtjbabjfmcganpaaGreatDoor
