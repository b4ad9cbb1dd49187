/- TopEmbargoEnds: the tied card. -/
import Derived.Test.YtdjfgcjlnfnfhaaGreatDoorTeLawB
import Derived.Test.YtdjfgcjlnfnfhaaGreatDoorTeLawD
import Derived.Test.YtdjfgcjlnfnfhaaGreatDoorTeLawE
import Derived.Test.YtdjfgcjlnfnfhaaGreatDoorTeLawF
import Derived.Test.YtdjfgcjlnfnfhaaGreatDoorLwCard
import Derived.Test.YtdjfgcjlnfnfhaaGreatDoorCards
import Derived.Test.YtdjfgcjlnfnfhaaGreatDoorTie
import Derived.Stop.LaidErr
import Derived.Lib.LaidTab
set_option linter.unusedSimpArgs false
set_option linter.unusedVariables false
namespace Go.Proofs.YtdjfgcjlnfnfhaaGreatDoor
open Go.Lw Go.RowKit Go.ChangeShapes Go.WideShapes Go.ChangeAt
set_option maxRecDepth 100000
set_option maxHeartbeats 1000000
theorem topEmbargoEnds_proved:Rows.TopEmbargoEndsCardSaid:=
 Claim7.holds_tied_plain_at .later [] Rows.topEmbargoEndsCard.laidKinds true Rows.topEmbargoEndsCard.stood.harness Rows.topEmbargoEndsCard.stood.looks overTopEmbargoEnds (fun _ h=>by cases h) card_wf (fun _ h=>by cases h) topEmbargoEnds_row_tie rfl ⟨rfl,rfl⟩ Mi rfl
  (fun f fn hf hfn=>by
    obtain rfl:f=3:=Option.some.inj (Jo.symm.trans hf) |>.symm
    obtain rfl:fn=Tryz.f3:=(Option.some.inj (Tryz.func3.symm.trans hfn)).symm
    exact⟨card_looks,fun j t ht=>by
     have hall:(Tryz.f3.params.toList.all fun u=> !Tryz.prog.wantsStandIn u)=true:=by kernel_rfl
     exact(show Tryz.prog.wantsStandIn t=false by simpa using List.all_eq_true.1 hall t (by simpa using Array.mem_of_getElem? ht))⟩)
  Mj
#print axioms topEmbargoEnds_proved
end Go.Proofs.YtdjfgcjlnfnfhaaGreatDoor
