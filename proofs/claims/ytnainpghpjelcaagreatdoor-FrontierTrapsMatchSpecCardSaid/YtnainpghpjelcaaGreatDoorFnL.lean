/-
  FRONTIER: what comes in, read as data.
-/
import Derived.Test.YtnainpghpjelcaaGreatDoorFnA
import Derived.Test.YtnainpghpjelcaaGreatDoorFrAwake
import Derived.Test.YtnainpghpjelcaaGreatDoorAdH
set_option linter.unusedSimpArgs false
set_option linter.unusedVariables false
namespace Go.Proofs.YtnainpghpjelcaaGreatDoor
open Go.Lw Go.RowKit Go.ChangeShapes Go.WideShapes Go.ChangeAt
set_option maxRecDepth 100000
set_option maxHeartbeats 1000000

def WntFits (x : Wnt) : Prop := x.1.length ≤ reachBytes ∧ inR .i64 x.2.1 ∧ inR .i64 x.2.2
def HstFits (x : Hst) : Prop := x.1.length ≤ reachBytes ∧ inR .i64 x.2.1 ∧ x.2.2.2.length ≤ maxLen ∧ ∀ y ∈ x.2.2.2, inR .i64 y
def FrFits (f : Frt) : Prop := (f.items.length ≤ maxLen ∧ ∀ x ∈ f.items, WntFits x) ∧ (f.hosts.length ≤ maxLen ∧ ∀ x ∈ f.hosts, HstFits x) ∧ inR .i64 f.budget ∧ inR .i64 f.window
end Go.Proofs.YtnainpghpjelcaaGreatDoor
