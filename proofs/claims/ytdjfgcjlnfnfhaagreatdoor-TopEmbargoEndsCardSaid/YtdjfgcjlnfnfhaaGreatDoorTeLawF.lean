/- TopEmbargoEnds: the tied card. -/
import Derived.Test.YtdjfgcjlnfnfhaaGreatDoorLwCard
import Derived.Test.YtdjfgcjlnfnfhaaGreatDoorCards
import Derived.Test.YtdjfgcjlnfnfhaaGreatDoorTie
import Derived.Stop.LaidErr
import Derived.Lib.LaidTab
set_option linter.unusedSimpArgs false
set_option linter.unusedVariables false
namespace Go.Proofs.YtdjfgcjlnfnfhaaGreatDoor
open Go.Lw Go.RowKit Go.ChangeShapes Go.WideShapes Go.ChangeAt
set_option maxRecDepth 100000
set_option maxHeartbeats 1000000
theorem Mj:false=Rows.topEmbargoEndsRow.goesBy Tryz.pinned.checked.prog:=(goes_none qC).symm
end Go.Proofs.YtdjfgcjlnfnfhaaGreatDoor
