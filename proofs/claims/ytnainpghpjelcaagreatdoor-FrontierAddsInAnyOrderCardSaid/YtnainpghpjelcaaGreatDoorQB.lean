/-
  CHAPTER 1's REFERENCE: schemes, rows of paths, the text and the check of an address. (WITH run_drawN.)
-/
import Derived.Test.YtnainpghpjelcaaGreatDoorR1D
import Derived.Test.YtnainpghpjelcaaGreatDoorAdH
set_option linter.unusedSimpArgs false
set_option linter.unusedVariables false
namespace Go.Proofs.YtnainpghpjelcaaGreatDoor
open Go.Lw Go.RowKit
set_option maxRecDepth 100000
set_option maxHeartbeats 1000000

/-- The first place at which a text is no row without a byte. -/
def rbadW (w s : Bs) : Int := if rowE w s = (s.length, true) then -1 else ((rowE w s).1 : Int)
def pathB (s : Bs) : Prop := s = [] ∨ (s[0]?.getD 0).toNat = 47 ∧ isRow [63] s
instance (s : Bs) : Decidable (pathB s) := by unfold pathB; infer_instance
end Go.Proofs.YtnainpghpjelcaaGreatDoor
/-
  CHAPTER 1's REFERENCE: the check and the text of an address. (WITH run_drawN.)
-/
set_option linter.unusedSimpArgs false
set_option linter.unusedVariables false
namespace Go.Proofs.YtnainpghpjelcaaGreatDoor
open Go.Lw Go.RowKit
set_option maxRecDepth 100000
set_option maxHeartbeats 1000000

end Go.Proofs.YtnainpghpjelcaaGreatDoor
