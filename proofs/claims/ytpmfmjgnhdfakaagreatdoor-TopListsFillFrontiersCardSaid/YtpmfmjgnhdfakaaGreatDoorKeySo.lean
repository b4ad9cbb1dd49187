/-
  CHAPTER 1's REFERENCE: queries of keys by rules. (WITH run_drawN.)
-/
import Derived.Test.YtpmfmjgnhdfakaaGreatDoorKeyD
import Derived.Test.YtpmfmjgnhdfakaaGreatDoorKeyS
import Derived.Sort.Walk0
set_option linter.unusedSimpArgs false
set_option linter.unusedVariables false
namespace Go.Proofs.YtpmfmjgnhdfakaaGreatDoor
open Go.Lw Go.RowKit
set_option maxRecDepth 100000
set_option maxHeartbeats 1000000

/-- Where a part is put in, from a place to the left. -/
def insAt (b : Bool) (M : List Bs) (p : Bs) : Nat → Nat
  | 0 => 0
  | k + 1 => if b = true ∧ Op.bytesLess (M[k]?.getD []) p = false ∧ M[k]?.getD [] ≠ p then insAt b M p k else k + 1
def insP (b : Bool) (M : List Bs) (p : Bs) : List Bs := M.take (insAt b M p M.length) ++ p :: M.drop (insAt b M p M.length)
def qStep (b : Bool) (R : List Rul) (M : List Bs) (p : Bs) : List Bs := if stays R p = true then insP b M p else M
def qAt (b : Bool) (R : List Rul) (L : List Bs) : Nat → List Bs
  | 0 => []
  | j + 1 => qStep b R (qAt b R L j) (L[j]?.getD [])
end Go.Proofs.YtpmfmjgnhdfakaaGreatDoor
/-
  KEYS BY RULES, PLAIN: the reference's insertion gives what the sorted parts are.
-/
set_option linter.unusedSimpArgs false
set_option linter.unusedVariables false
namespace Go.Proofs.YtpmfmjgnhdfakaaGreatDoor
open Go.Lw Go.RowKit
set_option maxRecDepth 100000
set_option maxHeartbeats 1000000

/-- Parts in order. -/
abbrev inOrd (M : List Bs) : Prop := M.Pairwise (fun x y => x ≤ y)
end Go.Proofs.YtpmfmjgnhdfakaaGreatDoor
