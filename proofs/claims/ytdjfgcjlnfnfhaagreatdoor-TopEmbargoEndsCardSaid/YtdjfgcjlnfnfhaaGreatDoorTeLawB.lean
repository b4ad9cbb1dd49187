/- TopEmbargoEnds: the tied card. -/
import Derived.Test.YtdjfgcjlnfnfhaaGreatDoorTeLawA
import Derived.Test.YtdjfgcjlnfnfhaaGreatDoorLwCard
import Derived.Test.YtdjfgcjlnfnfhaaGreatDoorCards
import Derived.Test.YtdjfgcjlnfnfhaaGreatDoorTie
import Derived.Stop.LaidErr
import Derived.Lib.LaidTab
set_option linter.unusedSimpArgs false
set_option linter.unusedVariables false
namespace Go.Proofs.YtdjfgcjlnfnfhaaGreatDoor
open Go.Lw Go.RowKit Go.ChangeShapes Go.WideShapes Go.ChangeAt
set_option maxRecDepth 100000
set_option maxHeartbeats 1000000
theorem joined_inPlace:(Rows.topEmbargoEndsRow.inPlace==Tryz.pinned.checked.prog.inPlace 3)=true:=by kernel_rfl
theorem joined_unfollowed:(Rows.topEmbargoEndsRow.unfollowed==Tryz.pinned.checked.prog.unfollowed 3)=true:=by kernel_rfl
theorem joined_recurses:(Rows.topEmbargoEndsRow.recurses==Tryz.pinned.checked.prog.recurses 3)=true:=by kernel_rfl
theorem joined_named:(Rows.topEmbargoEndsRow.named==Tryz.pinned.checked.prog.varsNamed 3)=true:=by kernel_rfl
theorem joined_all:joinedFacts Tryz.pinned.checked.prog 3 Tryz.f3 Rows.topEmbargoEndsSpec Rows.topEmbargoEndsRow=true:=by
 unfold joinedFacts
 rw[joined_inPlace,joined_unfollowed,joined_recurses,joined_named]
 kernel_rfl
theorem overTopEmbargoEnds:Rows.topEmbargoEndsRow.holds Tryz.pinned (OpenSpec.ofChange Rows.topEmbargoEndsSpec):=
 OpenClaim.holds_of_wide 3 Tryz.f3 rfl rfl rfl rfl rfl rfl rfl ⟨rfl,rfl,rfl,rfl,rfl⟩ rfl rfl rfl rfl rfl qC Tryz.func3 joined_all
  (of_decide_eq_true qC) (by unfold Func.isWrapper;first|(rw[if_pos (by decide+kernel)];kernel_rfl)|(rw[if_neg (by decide+kernel)];exact⟨rfl,rfl⟩))
  (fun os started H enc _=>pV os started H enc)
end Go.Proofs.YtdjfgcjlnfnfhaaGreatDoor
