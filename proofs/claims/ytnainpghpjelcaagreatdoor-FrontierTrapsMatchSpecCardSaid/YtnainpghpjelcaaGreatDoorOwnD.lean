/-
  A function that hands back a row of its own hands back data.
-/
import Derived.Test.YtnainpghpjelcaaGreatDoorLwRun
set_option linter.unusedSimpArgs false
set_option linter.unusedVariables false
namespace Go.Lw
open Go.RowKit

/-- Captured data is data. -/
@[simp] theorem asDL_data (st : St) (caps : List D) : asDL st (caps.map V.d) = some (caps, false) := by
  induction caps with
  | nil => rfl
  | cons x r ih => simp [asDL, asD, asLeaf, ih]
end Go.Lw
