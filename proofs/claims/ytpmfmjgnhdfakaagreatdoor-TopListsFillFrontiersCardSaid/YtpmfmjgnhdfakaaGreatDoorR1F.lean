/-
  CHAPTER 1's REFERENCE: the scheme. (WITH run_drawN.)
-/
import Derived.Test.YtpmfmjgnhdfakaaGreatDoorR1D
import Derived.Test.YtpmfmjgnhdfakaaGreatDoorAdG
set_option linter.unusedSimpArgs false
set_option linter.unusedVariables false
namespace Go.Proofs.YtpmfmjgnhdfakaaGreatDoor
open Go.Lw Go.RowKit
set_option maxRecDepth 100000
set_option maxHeartbeats 1000000

def wHttp : Bs := [104, 116, 116, 112]
def wSign : Bs := [58, 47, 47]
def isS (t : Bs) : Prop := 4 < t.length ∧ ((t[4]?.getD 0).toNat = 115 ∨ (t[4]?.getD 0).toNat = 83)
/-- What the reader's scheme gives: the name, the place, the fault. -/
def schQ (t : Bs) : Bs × Nat × Int := match schemeP t with
  | .ok (s, n) => (s, n, -1)
  | .error k => ([], 0, k)
end Go.Proofs.YtpmfmjgnhdfakaaGreatDoor
/-
  CHAPTER 1's REFERENCE: what its reading of path, query and fragment amounts to, in plain Lean.
-/
set_option linter.unusedSimpArgs false
set_option linter.unusedVariables false
namespace Go.Proofs.YtpmfmjgnhdfakaaGreatDoor
open Go.Lw
set_option maxRecDepth 100000
set_option maxHeartbeats 1000000

/-- What the program's reading came to: told by the reference's first fault. -/
def Outc (x : Bool × Nat × Adr) (b : Int) (a : Adr) : Prop := (b < 0 ∧ x.1 = true ∧ x.2.2 = a) ∨ (0 ≤ b ∧ x.1 = false ∧ (x.2.1 : Int) = b)
section
variable (t : Bs) (i : Nat) (a : Adr)
abbrev u1Q : Bs := (t.drop i).takeWhile (nw [63, 35])
abbrev i1Q : Nat := skip (nw [63, 35]) t i
abbrev b1Q : Int := keepB (-1) i (u1Q t i)
abbrev u2Q : Bs := (t.drop (i1Q t i + 1)).takeWhile (nw [35])
abbrev i2Q : Nat := skip (nw [35]) t (i1Q t i + 1)
abbrev b2Q : Int := keepB (b1Q t i) (i1Q t i + 1) (u2Q t i)
end
/-- The whole, by the reference's first fault. -/
def readQ (t : Bs) : Adr × Int := match readP t with
  | .ok a => (a, -1)
  | .error n => (Adr.zero, n)
end Go.Proofs.YtpmfmjgnhdfakaaGreatDoor
