/-
  PAGE: raw texts, and the page divided. (WITH run_drawN.)
-/
import Derived.Test.YtgebkjngnfdeiaaDoorPgOpen
set_option linter.unusedSimpArgs false
set_option linter.unusedVariables false
namespace Go.Proofs.YtgebkjngnfdeiaaDoor
open Go.Lw
set_option maxRecDepth 100000
set_option maxHeartbeats 1000000

def rawName (n : Bs) : Bool := decide (n = [115, 99, 114, 105, 112, 116]) || decide (n = [115, 116, 121, 108, 101]) || decide (n = [116, 105, 116, 108, 101])
def rawB (l : Bs) (t : Tk) : Bool := decide (t.kind = 2) && rawName t.name && decide ((l[t.til - 2]?.getD 0).toNat ≠ 47)
def rawAt (l : Bs) (i : Nat) (n : Bs) : Bool := [60, 47].isPrefixOf (l.drop i) && decide (i + 2 + n.length < l.length) && decide (small ((l.take (i + 2 + n.length)).drop (i + 2)) = n) && (decide ((l[i + 2 + n.length]?.getD 0).toNat = 62) || isBl (l[i + 2 + n.length]?.getD 0))
def rawE (l : Bs) (i : Nat) (n : Bs) : Nat := if i < l.length then (if rawAt l i n = true then i else rawE l (i + 1) n) else l.length
termination_by l.length - i
theorem rawE_le (l : Bs) (i : Nat) (n : Bs) (hi : i ≤ l.length) : i ≤ rawE l i n ∧ rawE l i n ≤ l.length := by
  rw [rawE]
  split
  · split
    · omega
    · have := rawE_le l (i + 1) n (by omega)
      omega
  · omega
termination_by l.length - i
end Go.Proofs.YtgebkjngnfdeiaaDoor
