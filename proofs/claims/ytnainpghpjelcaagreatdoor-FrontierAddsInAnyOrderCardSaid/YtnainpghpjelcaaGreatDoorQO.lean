/-
  A CALL THAT HANDS BACK SOMETHING OF WHICH A PART IS NOT KNOWN (an error, say).
-/
import Derived.Test.YtnainpghpjelcaaGreatDoorLwRun
import Derived.Test.YtnainpghpjelcaaGreatDoorQR
import Derived.Test.YtnainpghpjelcaaGreatDoorNm
import Derived.Test.YtnainpghpjelcaaGreatDoorLwFlt
import Derived.Lib.AppendIntMem
set_option linter.unusedSimpArgs false
set_option linter.unusedVariables false
namespace Go.Lw
open Go Go.RowKit

/-- THE CONTRACT OF A PURE FUNCTION, its result not all data. -/
def FnV (P : Program) (f : FuncId) (args : List D) (res : V) : Prop :=
  callB P f = true ∧ ∀ (ok : Nat → Prop) (w : World) (vs : Array Value), (∀ k, ok k → k < w.heap.size) → Std P w → ArgsRd w ok args vs →
    Calls P f vs w fun e w' => ∃ v, e = .returned v ∧ Below w.heap.size w w' ∧ ∀ h, RdV w' (fresh ok w w') h res v
section
variable {C : Ctx} {P : Program} {nt : Nat} {st st' : St} {Q : Exit → St → Prop} {K : St → Prop} {o : Oper} {rest : List Oper} {ops : Array Oper}
end
end Go.Lw
/-
  CHAPTER 1's REFERENCE: numbers of ports; the normal form of an address. (WITH run_drawN.)
-/
set_option linter.unusedSimpArgs false
set_option linter.unusedVariables false
namespace Go.Proofs.YtnainpghpjelcaaGreatDoor
open Go.Lw Go.RowKit
set_option maxRecDepth 100000
set_option maxHeartbeats 1000000

abbrev noZero (s : Bs) : Bs := s.dropWhile fun c => decide (c = 48)
end Go.Proofs.YtnainpghpjelcaaGreatDoor
/-
  CHAPTER 1's REFERENCE: the normal form of an address; AddressChecksMatchSpec's own walk. (WITH run_drawN.)
-/
set_option linter.unusedSimpArgs false
set_option linter.unusedVariables false
namespace Go.Proofs.YtnainpghpjelcaaGreatDoor
open Go.Lw Go.RowKit
set_option maxRecDepth 100000
set_option maxHeartbeats 2000000

end Go.Proofs.YtnainpghpjelcaaGreatDoor
