/-
  cmp.Compare, cmp.Or, strings.Compare. (WITH run_drawN.)
-/
import Derived.Test.YtnainpghpjelcaaGreatDoorLibS
import Derived.Test.YtnainpghpjelcaaGreatDoorLwFlt
import Derived.Sort.Walk0
import Derived.Test.YtnainpghpjelcaaGreatDoorFnA
set_option linter.unusedSimpArgs false
set_option linter.unusedVariables false
namespace Go.Proofs.YtnainpghpjelcaaGreatDoor
open Go.Lw Go.RowKit
set_option maxRecDepth 100000
set_option maxHeartbeats 1000000

/-- The first of two numbers that is not 0. -/
def or2 (x y : Int) : Int := if x ≠ 0 then x else y
def orL (l : List Int) (j : Nat) : Int := if j < l.length then (if l[j]?.getD 0 = 0 then orL l (j + 1) else l[j]?.getD 0) else 0
termination_by l.length - j
end Go.Proofs.YtnainpghpjelcaaGreatDoor
/-
  FRONTIER: find, opens, next (program). (WITH run_drawN.)
-/
set_option linter.unusedSimpArgs false
set_option linter.unusedVariables false
namespace Go.Proofs.YtnainpghpjelcaaGreatDoor
open Go.Lw Go.RowKit
set_option maxRecDepth 100000
set_option maxHeartbeats 2000000

@[simp] theorem inR_u64 (n : Int) : inR .u64 n ↔ 0 ≤ n ∧ n ≤ 18446744073709551615 := by simp [inR, IntKind.min, IntKind.max, IntKind.signed, IntKind.bits]
/-- Each is behind the one ahead of it. -/
def ascB (K : Nat → Bs) (n : Nat) : Prop := ∀ i j, i < j → j < n → Op.bytesLess (K i) (K j) = true
/-- The first place, from one on, that isn't ahead of a string. -/
def lbGo (K : Nat → Bs) (n : Nat) (s : Bs) (i : Nat) : Nat := if i < n ∧ Op.bytesLess (K i) s = true then lbGo K n s (i + 1) else i
termination_by n - i
/-- The lower bound. -/
def lbB (K : Nat → Bs) (n : Nat) (s : Bs) : Nat := lbGo K n s 0
/-- Is a string there? -/
def thereB (K : Nat → Bs) (n : Nat) (s : Bs) : Bool := decide (lbB K n s < n) && decide (K (lbB K n s) = s)
abbrev nameAt (H : List Hst) (j : Nat) : Bs := (hstAt H j).1
/-- From when on a host is open; whether it ever is. -/
def opensP (f : Frt) (s : Bs) : Int × Bool :=
  if thereB (nameAt f.hosts) f.hosts.length s = false then (0, true)
  else if (hstAt f.hosts (lbB (nameAt f.hosts) f.hosts.length s)).2.2.1 = true then (0, false)
  else (if f.budget ≤ (hstAt f.hosts (lbB (nameAt f.hosts) f.hosts.length s)).2.2.2.length then
    max (hstAt f.hosts (lbB (nameAt f.hosts) f.hosts.length s)).2.1 ((hstAt f.hosts (lbB (nameAt f.hosts) f.hosts.length s)).2.2.2[((hstAt f.hosts (lbB (nameAt f.hosts) f.hosts.length s)).2.2.2.length - f.budget.toNat)]?.getD 0 + f.window) else (hstAt f.hosts (lbB (nameAt f.hosts) f.hosts.length s)).2.1, true)
/-- What the check of a frontier gives. -/
structure FrGood (f : Frt) : Prop where
  budget : 1 ≤ f.budget ∧ f.budget ≤ 200
  window : 1 ≤ f.window ∧ f.window ≤ 100000000
  items : f.items.length ≤ 2000
  hosts : f.hosts.length ≤ 300
  wnt : ∀ j, j < f.items.length → wntE (wntAt f.items j) = 0
  keys : ascB (fun j => (wntAt f.items j).1) f.items.length
  names : ascB (nameAt f.hosts) f.hosts.length
  isHo : ∀ j, j < f.hosts.length → isHo (nameAt f.hosts j) = true
  free : ∀ j, j < f.hosts.length → 0 ≤ (hstAt f.hosts j).2.1 ∧ (hstAt f.hosts j).2.1 ≤ 253502300799
  many : ∀ j, j < f.hosts.length → (hstAt f.hosts j).2.2.2.length ≤ 200
  starts : ∀ j, j < f.hosts.length → ∀ k, k < (hstAt f.hosts j).2.2.2.length → okM ((hstAt f.hosts j).2.2.2[k]?.getD 0) ∧ (0 < k → (hstAt f.hosts j).2.2.2[k - 1]?.getD 0 ≤ (hstAt f.hosts j).2.2.2[k]?.getD 0)
/-- Is an item more urgent than another one? -/
abbrev better (a b : Wnt) : Prop := a.2.1 < b.2.1 ∨ (a.2.1 = b.2.1 ∧ a.2.2 < b.2.2)
/-- May an item be fetched at a moment? -/
def rdyP (f : Frt) (t : Int) (x : Wnt) : Bool := decide (x.2.2 ≤ t) && (opensP f (hostK x.1)).2 && decide ((opensP f (hostK x.1)).1 ≤ t)
def nextGo (L : List Wnt) (r : Wnt → Bool) (j : Nat) (b : Int) : Int :=
  if j < L.length then nextGo L r (j + 1) (if r (wntAt L j) = true ∧ (b < 0 ∨ better (wntAt L j) (wntAt L b.toNat)) then (j : Int) else b) else b
termination_by L.length - j
end Go.Proofs.YtnainpghpjelcaaGreatDoor
/-
  FRONTIER: Next, Wait, Spent (program). (WITH run_drawN.)
-/
set_option linter.unusedSimpArgs false
set_option linter.unusedVariables false
namespace Go.Proofs.YtnainpghpjelcaaGreatDoor
open Go.Lw Go.RowKit
set_option maxRecDepth 100000
set_option maxHeartbeats 2000000

/-- The fault of a frontier and a moment. -/
def atE (f : Frt) (t : Int) : Nat := if frE f ≠ 0 then frE f else if decide (okM t) = false then 1 else 0
def nextC (f : Frt) (t : Int) : Int × Bool × Nat := if atE f t ≠ 0 then (0, false, atE f t) else (max (nextGo f.items (rdyP f t) 0 (-1)) 0, decide (0 ≤ nextGo f.items (rdyP f t) 0 (-1)), 0)
/-- When an item can be fetched. -/
def waitN (f : Frt) (t : Int) (x : Wnt) : Int := max t (max x.2.2 (opensP f (hostK x.1)).1)
def waitGo (L : List Wnt) (n : Wnt → Int) (o : Wnt → Bool) (j : Nat) (b : Int) : Int :=
  if j < L.length then waitGo L n o (j + 1) (if o (wntAt L j) = true ∧ n (wntAt L j) ≤ 253402300799 ∧ (b < 0 ∨ n (wntAt L j) < b) then n (wntAt L j) else b) else b
termination_by L.length - j
def opnP (f : Frt) (x : Wnt) : Bool := (opensP f (hostK x.1)).2
def waitC (f : Frt) (t : Int) : Int × Nat := if atE f t ≠ 0 then (0, atE f t) else (waitGo f.items (waitN f t) (opnP f) 0 (-1), 0)
/-- How often a host was asked. -/
def spentGo (l : List Int) (lo hi : Int) (j : Nat) : Nat := if j < l.length then (if lo < l[j]?.getD 0 ∧ l[j]?.getD 0 ≤ hi then 1 else 0) + spentGo l lo hi (j + 1) else 0
termination_by l.length - j
def spentC (f : Frt) (s : Bs) (t : Int) : Int × Nat := if atE f t ≠ 0 then (0, atE f t) else if thereB (nameAt f.hosts) f.hosts.length s = false then (0, 9) else (spentGo (hstAt f.hosts (lbB (nameAt f.hosts) f.hosts.length s)).2.2.2 (t - f.window) t 0, 0)
end Go.Proofs.YtnainpghpjelcaaGreatDoor
