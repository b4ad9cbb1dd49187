/-
  ADDRESS, IN PLAIN LEAN: steps of the walks.
-/
import Derived.Test.YtglonkenckigiaaGreatDoorAdQ
set_option linter.unusedSimpArgs false
set_option linter.unusedVariables false
namespace Go.Proofs.YtglonkenckigiaaGreatDoor
open Go.Lw
set_option maxRecDepth 100000
set_option maxHeartbeats 1000000

theorem drop_get (s : Bs) (i : Nat) (h : i < s.length) : s.drop i = s[i]?.getD 0 :: s.drop (i + 1) := by
  rw [List.drop_eq_getElem_cons h]; simp [h]
theorem rowE_end (w s : Bs) (i : Nat) (h : s.length ≤ i) : rowE w (s.drop i) = (0, true) := by
  rw [List.drop_of_length_le h]; rfl
theorem rowE_at (w s : Bs) (i : Nat) (h : i < s.length) : rowE w (s.drop i) =
    if w.contains (s[i]?.getD 0) = true then (0, true) else if badB (s[i]?.getD 0) = true then (0, false)
    else if s[i]?.getD 0 = 37 then (if i + 2 < s.length ∧ isHexB (s[i + 1]?.getD 0) = true ∧ isHexB (s[i + 2]?.getD 0) = true then ((rowE w (s.drop (i + 3))).1 + 3, (rowE w (s.drop (i + 3))).2) else (0, false))
    else ((rowE w (s.drop (i + 1))).1 + 1, (rowE w (s.drop (i + 1))).2) := by
  rw [drop_get s i h, rowE.eq_def]
  simp only
  split
  · rfl
  split
  · rfl
  split
  · by_cases h1 : i + 1 < s.length
    · rw [drop_get s (i + 1) h1]
      by_cases h2 : i + 2 < s.length
      · rw [drop_get s (i + 1 + 1) h2]
        simp only [h2, true_and]
      · rw [List.drop_of_length_le (show s.length ≤ i + 1 + 1 by omega)]
        rw [if_neg (fun e => h2 e.1)]
    · rw [List.drop_of_length_le (show s.length ≤ i + 1 by omega)]
      rw [if_neg (fun e => h1 (by omega))]
  · rfl
/-- How far a row goes from a place on: what the loop keeps. -/
def rowAt (w s : Bs) (i : Nat) : Nat × Bool := (i + (rowE w (s.drop i)).1, (rowE w (s.drop i)).2)
theorem rowAt_zero (w s : Bs) : rowAt w s 0 = rowE w s := by simp [rowAt]
theorem rowAt_end (w s : Bs) (i : Nat) (h : s.length ≤ i) : rowAt w s i = (i, true) := by simp [rowAt, rowE_end w s i h]
theorem rowAt_step (w s : Bs) (i : Nat) (h : i < s.length) : rowAt w s i =
    if w.contains (s[i]?.getD 0) = true then (i, true) else if badB (s[i]?.getD 0) = true then (i, false)
    else if s[i]?.getD 0 = 37 then (if i + 2 < s.length ∧ isHexB (s[i + 1]?.getD 0) = true ∧ isHexB (s[i + 2]?.getD 0) = true then rowAt w s (i + 3) else (i, false))
    else rowAt w s (i + 1) := by
  unfold rowAt
  rw [rowE_at w s i h]
  repeat' split
  all_goals first | rfl | (refine Prod.ext ?_ rfl; simp only; omega)
theorem rowAt_le (w s : Bs) (i : Nat) (h : i ≤ s.length) : i ≤ (rowAt w s i).1 ∧ (rowAt w s i).1 ≤ s.length := by
  have := rowE_le w (s.drop i)
  simp only [List.length_drop] at this
  unfold rowAt
  simp only
  omega
def digN (s : Bs) : Nat := s.foldl (fun n c => 10 * n + (c.toNat - 48)) 0
theorem digN_take (s : Bs) (j : Nat) (h : j < s.length) : digN (s.take (j + 1)) = 10 * digN (s.take j) + ((s[j]?.getD 0).toNat - 48) := by
  unfold digN
  rw [List.take_add_one, List.foldl_append]
  simp [h]
theorem digN_lt (s : Bs) (hs : s.all isDig = true) (j : Nat) (h : j ≤ s.length) : digN (s.take j) < 10 ^ j := by
  induction j with
  | zero => simp [digN]
  | succ j ih =>
    have h1 := ih (by omega)
    rw [digN_take s j (by omega)]
    have h2 : isDig s[j] = true := List.all_eq_true.1 hs _ (List.getElem_mem (by omega))
    have h3 : s[j]?.getD 0 = s[j] := by rw [List.getElem?_eq_getElem (by omega)]; rfl
    simp only [isDig, Bool.and_eq_true, decide_eq_true_eq] at h2
    rw [h3, Nat.pow_succ]
    omega
theorem dig_at (s : Bs) (hs : s.all isDig = true) (j : Nat) (h : j < s.length) : 48 ≤ (s[j]?.getD 0).toNat ∧ (s[j]?.getD 0).toNat ≤ 57 := by
  have h2 : isDig s[j] = true := List.all_eq_true.1 hs _ (List.getElem_mem h)
  have h3 : s[j]?.getD 0 = s[j] := by rw [List.getElem?_eq_getElem h]; rfl
  simp only [isDig, Bool.and_eq_true, decide_eq_true_eq] at h2
  rw [h3]; exact h2
theorem portB_no (s : Bs) (h : ¬ (1 ≤ s.length ∧ s.length ≤ 5 ∧ s.all isDig = true)) : portB s = 0 := by unfold portB; rw [if_neg h]
theorem portB_yes (s : Bs) (h : 1 ≤ s.length ∧ s.length ≤ 5 ∧ s.all isDig = true) : portB s = if digN s ≤ 65535 then digN s else 0 := by unfold portB; rw [if_pos h]; rfl
end Go.Proofs.YtglonkenckigiaaGreatDoor
