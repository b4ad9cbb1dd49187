/-
  CHAPTER 1's REFERENCE: the normal form of a row. (WITH run_drawN.)
-/
import Derived.Test.YtnainpghpjelcaaGreatDoorAdL
import Derived.Test.YtnainpghpjelcaaGreatDoorR1D
import Derived.Test.YtnainpghpjelcaaGreatDoorQB
import Derived.Test.YtnainpghpjelcaaGreatDoorAdO
set_option linter.unusedSimpArgs false
set_option linter.unusedVariables false
namespace Go.Proofs.YtnainpghpjelcaaGreatDoor
open Go.Lw Go.RowKit
set_option maxRecDepth 100000
set_option maxHeartbeats 1000000

end Go.Proofs.YtnainpghpjelcaaGreatDoor
/-
  CHAPTER 1's REFERENCE: dots of paths. (WITH run_drawN.)
-/
set_option linter.unusedSimpArgs false
set_option linter.unusedVariables false
namespace Go.Proofs.YtnainpghpjelcaaGreatDoor
open Go.Lw Go.RowKit
set_option maxRecDepth 100000
set_option maxHeartbeats 1000000

/-- What is left of the parts, without the one that is put at the end. -/
def udQ (P : List Bs) : Nat → List Bs
  | 0 => []
  | j + 1 => udStep false (udQ P j) (P[j]?.getD [])
def slashed (F : List Bs) (i : Nat) : Bs := ((F.take i).map fun x => (47 : UInt8) :: x).flatten
end Go.Proofs.YtnainpghpjelcaaGreatDoor
/-
  CHAPTER 1's REFERENCE: Relative; AddressRelativesMatchSpec's own walk. (WITH run_drawN.)
-/
set_option linter.unusedSimpArgs false
set_option linter.unusedVariables false
namespace Go.Proofs.YtnainpghpjelcaaGreatDoor
open Go.Lw Go.RowKit
set_option maxRecDepth 100000
set_option maxHeartbeats 1000000

end Go.Proofs.YtnainpghpjelcaaGreatDoor
