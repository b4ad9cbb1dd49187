/-
  ADDRESS: what a text that Relative wrote means: Trim, row, meant. (WITH run_drawN.)
-/
import Derived.Test.YtpmfmjgnhdfakaaGreatDoorR1F
import Derived.Test.YtpmfmjgnhdfakaaGreatDoorAdH
import Derived.Test.YtpmfmjgnhdfakaaGreatDoorAdW
import Derived.Test.YtpmfmjgnhdfakaaGreatDoorAdM
set_option linter.unusedSimpArgs false
set_option linter.unusedVariables false
namespace Go.Proofs.YtpmfmjgnhdfakaaGreatDoor
open Go.Lw Go.RowKit
set_option maxRecDepth 100000
set_option maxHeartbeats 1000000

def blanks : Bs := [9, 10, 12, 13, 32]
/-! What behindA is cut into. -/
end Go.Proofs.YtpmfmjgnhdfakaaGreatDoor
/-
  ADDRESS: Resolve of what Relative wrote; Relative; AddressRelativesResolve's own walk. (WITH run_drawN.)
-/
set_option linter.unusedSimpArgs false
set_option linter.unusedVariables false
namespace Go.Proofs.YtpmfmjgnhdfakaaGreatDoor
open Go.Lw Go.RowKit Go.ChangeShapes Go.WideShapes Go.ChangeAt
set_option maxRecDepth 100000
set_option maxHeartbeats 1000000

def relC (b a : Adr) : Bs × Nat :=
  if chkC b ≠ 0 then ([], chkC b) else if chkC a ≠ 0 then ([], chkC a) else if undotP a.path ≠ a.path then ([], 11)
  else if a.scheme = b.scheme ∧ a.host = b.host ∧ a.port = b.port ∧ a.path ≠ [] ∧ ¬ [47, 47] <+: a.path then (behindA a, 0) else (writeA a, 0)
end Go.Proofs.YtpmfmjgnhdfakaaGreatDoor
