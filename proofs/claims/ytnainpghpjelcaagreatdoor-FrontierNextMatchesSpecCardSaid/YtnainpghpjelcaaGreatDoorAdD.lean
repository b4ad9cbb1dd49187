/-
  ADDRESS: the scheme. (WITH run_drawN.)
-/
import Derived.Test.YtnainpghpjelcaaGreatDoorAdB
import Derived.Test.YtnainpghpjelcaaGreatDoorAdK
import Derived.Test.YtnainpghpjelcaaGreatDoorLwFlt
set_option linter.unusedSimpArgs false
set_option linter.unusedVariables false
namespace Go.Proofs.YtnainpghpjelcaaGreatDoor
open Go.Lw Go.RowKit
set_option maxRecDepth 100000
set_option maxHeartbeats 1000000

def pmAt (w t : Bs) (n : Nat) : Nat := n + pmatch (w.drop n) (t.drop n)
theorem pmAt_zero (w t : Bs) : pmAt w t 0 = pmatch w t := by simp [pmAt]
theorem pmAt_step (w t : Bs) (n : Nat) (h1 : n < w.length) (h2 : n < t.length) : pmAt w t n = if low (t[n]?.getD 0) = w[n]?.getD 0 then pmAt w t (n + 1) else n := by
  unfold pmAt
  rw [drop_get w n h1, drop_get t n h2]
  simp only [pmatch]
  split
  · omega
  · rfl
theorem pmAt_end (w t : Bs) (n : Nat) (h : w.length ≤ n ∨ t.length ≤ n) : pmAt w t n = n := by
  unfold pmAt
  rcases h with h | h
  · rw [List.drop_of_length_le h]; simp [pmatch]
  · rw [List.drop_of_length_le h]; cases w.drop n <;> simp [pmatch]
theorem one_at (t : Bs) (n : Nat) (h : n < t.length) : (t.take (n + 1)).drop n = [t[n]?.getD 0] := by
  rw [List.take_add_one, List.drop_append_of_le_length (by simp; omega), List.drop_of_length_le (by simp; omega)]
  simp [h]
theorem pm_yes {w t : Bs} {n : Nat} (h1 : n < w.length) (h2 : n < t.length) (h3 : small ((t.take (n + 1)).drop n) = (w.take (n + 1)).drop n) : pmAt w t n = pmAt w t (n + 1) := by
  rw [one_at t n h2, one_at w n h1] at h3
  rw [pmAt_step w t n h1 h2, if_pos (by simpa [small] using h3)]
theorem pm_no {w t : Bs} {n : Nat} (h : n < w.length → n < t.length → ¬ small ((t.take (n + 1)).drop n) = (w.take (n + 1)).drop n) : pmAt w t n = n := by
  by_cases h1 : n < w.length
  · by_cases h2 : n < t.length
    · have h3 := h h1 h2
      rw [one_at t n h2, one_at w n h1] at h3
      rw [pmAt_step w t n h1 h2, if_neg (by simpa [small] using h3)]
    · exact pmAt_end w t n (.inr (by omega))
  · exact pmAt_end w t n (.inl (by omega))
def schD (t : Bs) : D := match schemeP t with
  | .ok (s, n) => .tup [str s, int n, tru true]
  | .error n => .tup [str [], int n, tru false]
def mxP (t : Bs) : Nat → Nat
  | 0 => 0
  | 1 => pmatch httpW t
  | _ => max (pmatch httpW t) (pmatch httpsW t)
end Go.Proofs.YtnainpghpjelcaaGreatDoor
/-
  ADDRESS: the reader. (WITH run_drawN.)
-/
set_option linter.unusedSimpArgs false
set_option linter.unusedVariables false
namespace Go.Proofs.YtnainpghpjelcaaGreatDoor
open Go.Lw Go.RowKit
set_option maxRecDepth 100000
set_option maxHeartbeats 1000000

abbrev rdrL (t : Bs) (i : Int) (a : Adr) : List V := [.d (str t), .d (int i), .d (str a.scheme), .d (str a.host), .d (str a.port), .d (str a.path), .d (str a.query), .d (tru a.hasQ), .d (str a.frag), .d (tru a.hasF)]
theorem cut_eq (t : Bs) (i n : Nat) : (t.take (i + n)).drop i = (t.drop i).take n := by rw [List.drop_take]; simp
end Go.Proofs.YtnainpghpjelcaaGreatDoor
