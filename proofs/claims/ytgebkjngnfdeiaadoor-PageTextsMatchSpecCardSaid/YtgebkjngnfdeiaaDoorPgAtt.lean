/-
  PAGE: the scanner: attributes. (WITH run_drawN.)
-/
import Derived.Test.YtgebkjngnfdeiaaDoorPgTag
set_option linter.unusedSimpArgs false
set_option linter.unusedVariables false
namespace Go.Proofs.YtgebkjngnfdeiaaDoor
open Go.Lw
set_option maxRecDepth 100000
set_option maxHeartbeats 1000000

structure Atr where
  name : Bs
  val : Bs
  fr : Nat
  til : Nat
  has : Bool
abbrev Atr.none : Atr := ⟨[], [], 0, 0, false⟩
abbrev encA (a : Atr) : List D := [str a.name, str a.val, int a.fr, int a.til, tru a.has]
def att (l : Bs) (i : Nat) : Atr × Bool × Nat :=
  if skip isBl l i = i then (.none, false, i)
  else if nm inNameB l (skip isBl l i) = skip isBl l i then (.none, false, skip isBl l i)
  else if l[nm inNameB l (skip isBl l i)]? = some 61 then
    if (val l (nm inNameB l (skip isBl l i) + 1)).2.1 = true then
      (⟨small ((l.take (nm inNameB l (skip isBl l i))).drop (skip isBl l i)), meant ((l.take (val l (nm inNameB l (skip isBl l i) + 1)).1.2).drop (val l (nm inNameB l (skip isBl l i) + 1)).1.1), (val l (nm inNameB l (skip isBl l i) + 1)).1.1, (val l (nm inNameB l (skip isBl l i) + 1)).1.2, true⟩, true, (val l (nm inNameB l (skip isBl l i) + 1)).2.2)
    else (⟨small ((l.take (nm inNameB l (skip isBl l i))).drop (skip isBl l i)), [], (val l (nm inNameB l (skip isBl l i) + 1)).1.1, (val l (nm inNameB l (skip isBl l i) + 1)).1.2, false⟩, false, (val l (nm inNameB l (skip isBl l i) + 1)).2.2)
  else (⟨small ((l.take (nm inNameB l (skip isBl l i))).drop (skip isBl l i)), [], nm inNameB l (skip isBl l i), nm inNameB l (skip isBl l i), false⟩, true, nm inNameB l (skip isBl l i))
theorem val_le (l : Bs) (i : Nat) (hi : i ≤ l.length) : (val l i).2.2 ≤ l.length ∧ i ≤ (val l i).2.2 ∧ ((val l i).2.1 = true → i ≤ (val l i).1.1 ∧ (val l i).1.1 ≤ (val l i).1.2 ∧ (val l i).1.2 ≤ (val l i).2.2) := by
  have h1 := skip_ge inValB l i
  have h2 := skip_le inValB l i hi
  have h3 := indexByte_lt (l.drop (i + 1)) (l[i]?.getD 0)
  simp only [List.length_drop] at h3
  unfold val
  split
  · rename_i h
    have : i < l.length := by rcases h with h | h <;> exact (List.getElem?_eq_some_iff.1 h).1
    split
    · simp; omega
    · simp; omega
  · split <;> simp <;> omega
@[simp] theorem small_len (l : Bs) : (small l).length = l.length := by simp [small]
@[simp] theorem small_emp (l : Bs) : (small l).isEmpty = l.isEmpty := by cases l <;> rfl
@[simp] theorem small_nil (l : Bs) : small l = [] ↔ l = [] := by cases l <;> simp [small]
end Go.Proofs.YtgebkjngnfdeiaaDoor
