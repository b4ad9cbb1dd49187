/-
  CHAPTER 1's REFERENCE: keys without rules. (WITH run_drawN.)
-/
import Derived.Test.YtnainpghpjelcaaGreatDoorKeyB
import Derived.Test.YtnainpghpjelcaaGreatDoorQO
set_option linter.unusedSimpArgs false
set_option linter.unusedVariables false
namespace Go.Proofs.YtnainpghpjelcaaGreatDoor
open Go.Lw Go.RowKit
set_option maxRecDepth 100000
set_option maxHeartbeats 2000000

/-- Words, each with a sign behind it. -/
def signed (c : UInt8) (M : List Bs) (r : Nat) : Bs := ((M.take r).map fun x => x ++ [c]).flatten
end Go.Proofs.YtnainpghpjelcaaGreatDoor
/-
  CHAPTER 1's REFERENCE: the query of a key without rules. (WITH run_drawN.)
-/
set_option linter.unusedSimpArgs false
set_option linter.unusedVariables false
namespace Go.Proofs.YtnainpghpjelcaaGreatDoor
open Go.Lw Go.RowKit
set_option maxRecDepth 100000
set_option maxHeartbeats 2000000

abbrev partsD (M : List Bs) : D := .sl M.length fun i => [str (M[i]?.getD [])]
end Go.Proofs.YtnainpghpjelcaaGreatDoor
