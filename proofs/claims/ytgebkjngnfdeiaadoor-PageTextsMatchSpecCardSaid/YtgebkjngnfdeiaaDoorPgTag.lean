/-
  PAGE: the scanner: ends of tags, values, attributes. (WITH run_drawN.)
-/
import Derived.Test.YtgebkjngnfdeiaaDoorPgScan
set_option linter.unusedSimpArgs false
set_option linter.unusedVariables false
namespace Go.Proofs.YtgebkjngnfdeiaaDoor
open Go.Lw
set_option maxRecDepth 100000
set_option maxHeartbeats 1000000

theorem pre_one (c : UInt8) (l : Bs) (i : Nat) : [c].isPrefixOf (l.drop i) = decide (l[i]? = some c) := by
  by_cases h : i < l.length
  · rw [List.drop_eq_getElem_cons h]
    show (c == l[i] && true) = _
    rw [Bool.and_true, Bool.eq_iff_iff, beq_iff_eq, decide_eq_true_eq, List.getElem?_eq_getElem h, Option.some.injEq, eq_comm]
  · rw [List.drop_of_length_le (by omega), List.getElem?_eq_none (by omega)]
    rfl

/-! The end of a tag. -/
def shut (l : Bs) (i : Nat) : Option (Bs × Nat) × Nat :=
  if [60, 47].isPrefixOf (l.drop i) = true then
    if nm inTagB l (i + 2) ≠ i + 2 ∧ l[skip isBl l (nm inTagB l (i + 2))]? = some 62 then (some (small ((l.take (nm inTagB l (i + 2))).drop (i + 2)), skip isBl l (nm inTagB l (i + 2)) + 1), skip isBl l (nm inTagB l (i + 2)) + 1)
    else (none, skip isBl l (nm inTagB l (i + 2)))
  else (none, i)
@[simp] def shutD : Option (Bs × Nat) → D
  | some r => .tup [str r.1, tru true]
  | none => .tup [str [], tru false]
/-! A value. -/
theorem indexByte_lt (l : Bs) (c : UInt8) : Lib.indexByte l c < l.length ∨ Lib.indexByte l c = -1 := by
  induction l with
  | nil => right; rfl
  | cons b l ih =>
    simp only [Lib.indexByte, List.length_cons]
    split
    · left; omega
    · split
      · right; rfl
      · rename_i h
        simp at h
        left; omega
def val (l : Bs) (i : Nat) : (Nat × Nat) × Bool × Nat :=
  if l[i]? = some 34 ∨ l[i]? = some 39 then
    if Lib.indexByte (l.drop (i + 1)) (l[i]?.getD 0) < 0 then ((0, 0), false, i)
    else ((i + 1, i + 1 + (Lib.indexByte (l.drop (i + 1)) (l[i]?.getD 0)).toNat), true, i + 2 + (Lib.indexByte (l.drop (i + 1)) (l[i]?.getD 0)).toNat)
  else if i < skip inValB l i ∧ l[skip inValB l i - 1]? = some 47 ∧ l[skip inValB l i]? = some 62 then ((i, skip inValB l i - 1), decide (i < skip inValB l i - 1), skip inValB l i - 1)
  else ((i, skip inValB l i), decide (i < skip inValB l i), skip inValB l i)
end Go.Proofs.YtgebkjngnfdeiaaDoor
