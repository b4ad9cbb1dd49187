/-
  FRONTIER: visits, periods: what the functions compute.
-/
import Derived.Test.YtpmfmjgnhdfakaaGreatDoorLibS
import Derived.Test.YtpmfmjgnhdfakaaGreatDoorLwCard
set_option linter.unusedSimpArgs false
set_option linter.unusedVariables false
namespace Go.Proofs.YtpmfmjgnhdfakaaGreatDoor
open Go.Lw
set_option maxRecDepth 100000
set_option maxHeartbeats 400000

/-! The plain functions. -/
abbrev Vis := Int × Bool
def encVis (v : Vis) : List D := [.lit (.int .i64 v.1), .lit (.bool v.2)]
abbrev visSl (l : List Vis) : D := .sl l.length fun i => encVis (l.getD i (0, false))
attribute [simp] encVis

def visFrom (l : List Vis) (j : Nat) : Int :=
  if j < l.length then
    if (l[j]?.getD (0, false)).1 < 0 ∨ 253402300799 < (l[j]?.getD (0, false)).1 then 1
    else if j = 0 ∧ (l[j]?.getD (0, false)).2 = true then 3
    else if 0 < j ∧ (l[j]?.getD (0, false)).1 ≤ (l[j - 1]?.getD (0, false)).1 then 8
    else visFrom l (j + 1)
  else 0
termination_by l.length - j
def checkVisits (l : List Vis) : Int := if 500 < l.length then 2 else visFrom l 0

def chFrom (l : List Vis) (j : Nat) : Int := if j < l.length then (if (l[j]?.getD (0, false)).2 then 1 else 0) + chFrom l (j + 1) else 0
termination_by l.length - j
def changes (l : List Vis) : Int := chFrom l 0
def period (l : List Vis) (low high : Int) : Int :=
  if l.length < 2 then low else
    let n := (2 * ((l[l.length - 1]?.getD (0, false)).1 - (l[0]?.getD (0, false)).1)).tdiv (2 * changes l + 1)
    let m := if (l[l.length - 1]?.getD (0, false)).2 then (if ((l[l.length - 1]?.getD (0, false)).1 - (l[l.length - 1 - 1]?.getD (0, false)).1 + 1).tdiv 2 < n then ((l[l.length - 1]?.getD (0, false)).1 - (l[l.length - 1 - 1]?.getD (0, false)).1 + 1).tdiv 2 else n) else n
    if high < (if m < low then low else m) then high else (if m < low then low else m)

def askPeriod (l : List Vis) (low high : Int) : Int :=
  if checkVisits l ≠ 0 then checkVisits l else if ¬ (1 ≤ low ∧ low ≤ 100000000) ∨ ¬ (low ≤ high ∧ high ≤ 100000000) then 1 else 0
def periodF (l : List Vis) (low high : Int) : Int × Int := if askPeriod l low high ≠ 0 then (0, askPeriod l low high) else (period l low high, 0)
def due (l : List Vis) (low high : Int) : Int × Int :=
  if askPeriod l low high ≠ 0 then (0, askPeriod l low high) else if l.length = 0 then (0, 0) else
    (if 253402300799 < (l[l.length - 1]?.getD (0, false)).1 + period l low high then 253402300799 else (l[l.length - 1]?.getD (0, false)).1 + period l low high, 0)

/-! The program's functions. -/
/-! The reference's. -/
end Go.Proofs.YtpmfmjgnhdfakaaGreatDoor
/-
  FRONTIER: periods.
-/
set_option linter.unusedSimpArgs false
set_option linter.unusedVariables false
namespace Go.Proofs.YtpmfmjgnhdfakaaGreatDoor
open Go.Lw
set_option maxRecDepth 100000
set_option maxHeartbeats 400000

def dueF (l : List Vis) (low high : Int) : Int := if l.length = 0 then 0 else if 253402300799 < (l[l.length - 1]?.getD ((0 : Int), false)).1 + period l low high then 253402300799 else (l[l.length - 1]?.getD ((0 : Int), false)).1 + period l low high
abbrev periodD (l : List Vis) (low high : Int) : D := .tup [int (if askPeriod l low high = 0 then period l low high else 0), int (askPeriod l low high)]
abbrev dueD (l : List Vis) (low high : Int) : D := .tup [int (if askPeriod l low high = 0 then dueF l low high else 0), int (askPeriod l low high)]
end Go.Proofs.YtpmfmjgnhdfakaaGreatDoor
/-
  FRONTIER: what the laws share: 'awake', and how arguments are read.
-/
set_option linter.unusedSimpArgs false
set_option linter.unusedVariables false
namespace Go.Proofs.YtpmfmjgnhdfakaaGreatDoor
open Go.Lw Go.RowKit Go.ChangeShapes Go.WideShapes Go.ChangeAt
set_option maxRecDepth 100000
set_option maxHeartbeats 400000

end Go.Proofs.YtpmfmjgnhdfakaaGreatDoor
