/-
  FRONTIER: numbers of a text (both sides). (WITH run_drawN.)
-/
import Derived.Test.YtpmfmjgnhdfakaaGreatDoorFnD
import Derived.Test.YtpmfmjgnhdfakaaGreatDoorR1D
import Derived.Test.YtpmfmjgnhdfakaaGreatDoorFnA
import Derived.Test.YtpmfmjgnhdfakaaGreatDoorFrAwake
import Derived.Test.YtpmfmjgnhdfakaaGreatDoorAdH
set_option linter.unusedSimpArgs false
set_option linter.unusedVariables false
namespace Go.Proofs.YtpmfmjgnhdfakaaGreatDoor
open Go.Lw Go.RowKit
set_option maxRecDepth 100000
set_option maxHeartbeats 2000000

/-- Is a string a number of at most 12 digits, without a needless 0? -/
def numOk (s : Bs) : Bool := decide (1 ≤ s.length ∧ s.length ≤ 12 ∧ s.all isDig = true ∧ ¬ ((s[0]?.getD 0).toNat = 48 ∧ s ≠ [48]))
def numV (s : Bs) : Int := if numOk s = true then (digN s : Int) else 0
/-! Numbers in a row. -/
def numsOk (n : Nat) (g : Nat → Bs) : Bool := (List.range n).all fun i => numOk (g i)
def numsV (n : Nat) (g : Nat → Bs) : List Int := (List.range n).map fun i => numV (g i)
@[simp] theorem numsV_length (n : Nat) (g : Nat → Bs) : (numsV n g).length = n := by simp [numsV]
end Go.Proofs.YtpmfmjgnhdfakaaGreatDoor
/-
  FRONTIER: a line of a text (program). (WITH run_drawN.)
-/
set_option linter.unusedSimpArgs false
set_option linter.unusedVariables false
namespace Go.Proofs.YtpmfmjgnhdfakaaGreatDoor
open Go.Lw Go.RowKit
set_option maxRecDepth 100000
set_option maxHeartbeats 2000000

abbrev sFrontier : Bs := [102, 114, 111, 110, 116, 105, 101, 114]
abbrev sWant : Bs := [119, 97, 110, 116]
abbrev sHost : Bs := [104, 111, 115, 116]
abbrev sBusy : Bs := [98, 117, 115, 121]
abbrev sIdle : Bs := [105, 100, 108, 101]
abbrev wat (L : List Bs) (i : Nat) : Bs := L[i]?.getD []
/-- A line, taken. -/
def lineC (f : Frt) (first : Bool) (L : List Bs) : Option Frt :=
  if first = true then
    if wat L 0 = sFrontier ∧ L.length = 3 ∧ numOk (wat L 1) = true ∧ numOk (wat L 2) = true then some { f with budget := numV (wat L 1), window := numV (wat L 2) } else none
  else if wat L 0 = sWant ∧ L.length = 4 ∧ f.hosts.length = 0 then
    if numOk (wat L 1) = true ∧ numOk (wat L 2) = true ∧ wat L 3 ≠ [] then some { f with items := f.items ++ [(wat L 3, numV (wat L 1), numV (wat L 2))] } else none
  else if wat L 0 = sHost ∧ 4 ≤ L.length then
    if numOk (wat L 2) = true ∧ numsOk (L.length - 4) (fun i => wat L (4 + i)) = true ∧ wat L 1 ≠ [] ∧ (wat L 3 = sBusy ∨ wat L 3 = sIdle) then
      some { f with hosts := f.hosts ++ [(wat L 1, numV (wat L 2), decide (wat L 3 = sBusy), numsV (L.length - 4) (fun i => wat L (4 + i)))] } else none
  else none
/-- No starts. -/
def noInts : D := intSl []
def frB (f : Frt) : List (Nat × O) :=
  [(100000, .box 39 [.os 50001 f.items.length, .os 50002 f.hosts.length, .d (int f.budget), .d (int f.window)]),
   (50001, .own 48 3 (true, [str [], int 0, int 0]) (f.items.map wntCells)),
   (50002, .own 116 4 (true, [str [], int 0, tru false, noInts]) (f.hosts.map hstCells))]
end Go.Proofs.YtpmfmjgnhdfakaaGreatDoor
/-
  FRONTIER: what comes in, read as data.
-/
set_option linter.unusedSimpArgs false
set_option linter.unusedVariables false
namespace Go.Proofs.YtpmfmjgnhdfakaaGreatDoor
open Go.Lw Go.RowKit Go.ChangeShapes Go.WideShapes Go.ChangeAt
set_option maxRecDepth 100000
set_option maxHeartbeats 1000000

def WntFits (x : Wnt) : Prop := x.1.length ≤ reachBytes ∧ inR .i64 x.2.1 ∧ inR .i64 x.2.2
def HstFits (x : Hst) : Prop := x.1.length ≤ reachBytes ∧ inR .i64 x.2.1 ∧ x.2.2.2.length ≤ maxLen ∧ ∀ y ∈ x.2.2.2, inR .i64 y
def FrFits (f : Frt) : Prop := (f.items.length ≤ maxLen ∧ ∀ x ∈ f.items, WntFits x) ∧ (f.hosts.length ≤ maxLen ∧ ∀ x ∈ f.hosts, HstFits x) ∧ inR .i64 f.budget ∧ inR .i64 f.window
end Go.Proofs.YtpmfmjgnhdfakaaGreatDoor
/-
  FRONTIER: a text, read (program). (WITH run_drawN.)
-/
set_option linter.unusedSimpArgs false
set_option linter.unusedVariables false
namespace Go.Proofs.YtpmfmjgnhdfakaaGreatDoor
open Go.Lw Go.RowKit
set_option maxRecDepth 100000
set_option maxHeartbeats 2000000

theorem cut_less {t : Bs} (h : (Lib.cut t [10]).2.2 = true) : (Lib.cut t [10]).2.1.length < t.length ∧ (Lib.cut t [10]).1.length ≤ t.length := by
  unfold Lib.cut at h ⊢
  split at h
  · rename_i h1
    have := Lib.index_room t [10] h1
    simp only [List.length_cons, List.length_nil] at this
    rw [if_pos h1]
    simp
    omega
  · cases h
/-- The lines of a text, taken one by one. -/
def frReadGo (f : Frt) (i : Nat) (t : Bs) : Option Frt × Nat :=
  if i = 0 ∨ t ≠ [] then
    if h : (Lib.cut t [10]).2.2 = true then
      match lineC f (decide (i = 0)) (Lib.split (Lib.cut t [10]).1 [32]) with
      | none => (none, i + 1)
      | some g => frReadGo g (i + 1) (Lib.cut t [10]).2.1
    else (none, i + 1)
  else (some f, 0)
termination_by t.length
decreasing_by exact (cut_less h).1
/-- What a frontier that is read has at most. -/
structure Lim (f : Frt) (i : Nat) : Prop where
  items : f.items.length ≤ i
  hosts : f.hosts.length ≤ i
  keys : ∀ x ∈ f.items, x.1.length ≤ 5000000
  names : ∀ x ∈ f.hosts, x.1.length ≤ 5000000 ∧ x.2.2.2.length ≤ 5000002
/-- A frontier of nothing. -/
def frNo : D := .agg [.lit (.slice none 0 0), .lit (.slice none 0 0), int 0, int 0]
abbrev fr0 : Frt := ⟨[], [], 0, 0⟩
/-- What Read hands back. -/
def frReadD (t : Bs) : D :=
  if 5000000 < t.length then .tup [frNo, int 0, int 2]
  else match (frReadGo fr0 0 t).1 with
  | none => .tup [frNo, int (frReadGo fr0 0 t).2, int 10]
  | some f => if frE f ≠ 0 then .tup [frNo, int 0, int (frE f)] else .tup [frD f, int 0, int 0]
end Go.Proofs.YtpmfmjgnhdfakaaGreatDoor
