/-
  ADDRESS: the scheme. (WITH run_drawN.)
-/
import Derived.Test.YtnainpghpjelcaaGreatDoorAdB
import Derived.Test.YtnainpghpjelcaaGreatDoorAdK
import Derived.Test.YtnainpghpjelcaaGreatDoorLwFlt
set_option linter.unusedSimpArgs false
set_option linter.unusedVariables false
namespace Go.Proofs.YtnainpghpjelcaaGreatDoor
open Go.Lw Go.RowKit
set_option maxRecDepth 100000
set_option maxHeartbeats 1000000

def pmAt (w t : Bs) (n : Nat) : Nat := n + pmatch (w.drop n) (t.drop n)
def schD (t : Bs) : D := match schemeP t with
  | .ok (s, n) => .tup [str s, int n, tru true]
  | .error n => .tup [str [], int n, tru false]
def mxP (t : Bs) : Nat → Nat
  | 0 => 0
  | 1 => pmatch httpW t
  | _ => max (pmatch httpW t) (pmatch httpsW t)
end Go.Proofs.YtnainpghpjelcaaGreatDoor
/-
  ADDRESS: the reader. (WITH run_drawN.)
-/
set_option linter.unusedSimpArgs false
set_option linter.unusedVariables false
namespace Go.Proofs.YtnainpghpjelcaaGreatDoor
open Go.Lw Go.RowKit
set_option maxRecDepth 100000
set_option maxHeartbeats 1000000

abbrev rdrL (t : Bs) (i : Int) (a : Adr) : List V := [.d (str t), .d (int i), .d (str a.scheme), .d (str a.host), .d (str a.port), .d (str a.path), .d (str a.query), .d (tru a.hasQ), .d (str a.frag), .d (tru a.hasF)]
end Go.Proofs.YtnainpghpjelcaaGreatDoor
