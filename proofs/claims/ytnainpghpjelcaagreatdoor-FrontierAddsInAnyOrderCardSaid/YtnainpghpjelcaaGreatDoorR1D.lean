/-
  CHAPTER 1's REFERENCE: rows, schemes. (WITH run_drawN.)
-/
import Derived.Test.YtnainpghpjelcaaGreatDoorR1A
import Derived.Test.YtnainpghpjelcaaGreatDoorAdG
import Derived.Test.YtnainpghpjelcaaGreatDoorShAt
set_option linter.unusedSimpArgs false
set_option linter.unusedVariables false
namespace Go.Proofs.YtnainpghpjelcaaGreatDoor
open Go.Lw Go.RowKit
set_option maxRecDepth 100000
set_option maxHeartbeats 1000000

/-! Rows, as the reference reads them. -/
def nw (w : Bs) (c : UInt8) : Bool := !w.contains c
theorem rowE_until {w : Bs} (hw : ∀ c, w.contains c = true → isHexB c = false) : ∀ r : Bs, rowE w r = rowE [] (r.takeWhile (nw w))
  | [] => rfl
  | c :: r => by
    by_cases h1 : w.contains c = true
    · rw [List.takeWhile_cons_of_neg (by unfold nw; rw [h1]; decide), rowE.eq_def]
      simp only
      rw [if_pos h1]
      rfl
    have h1' : nw w c = true := by unfold nw; simpa using h1
    rw [List.takeWhile_cons_of_pos h1', rowE.eq_def w, rowE.eq_def []]
    simp only
    rw [if_neg h1, if_neg (show ¬ ([] : Bs).contains c = true by simp)]
    by_cases h2 : badB c = true
    · rw [if_pos h2, if_pos h2]
    rw [if_neg h2, if_neg h2]
    by_cases h3 : c = 37
    · rw [if_pos h3, if_pos h3]
      match r with
      | [] => rfl
      | [h] =>
        by_cases hh : nw w h = true
        · rw [List.takeWhile_cons_of_pos hh]; rfl
        · rw [List.takeWhile_cons_of_neg hh]
      | h :: k :: r2 =>
        by_cases hh : nw w h = true
        · by_cases hk : nw w k = true
          · rw [List.takeWhile_cons_of_pos hh, List.takeWhile_cons_of_pos hk]
            simp only
            rw [rowE_until hw r2]
          · rw [List.takeWhile_cons_of_pos hh, List.takeWhile_cons_of_neg hk]
            have : isHexB k = false := hw k (by unfold nw at hk; simpa using hk)
            simp only
            rw [if_neg (by rw [this]; simp)]
        · rw [List.takeWhile_cons_of_neg hh]
          have : isHexB h = false := hw h (by unfold nw at hh; simpa using hh)
          simp only
          rw [if_neg (by rw [this]; simp)]
    · rw [if_neg h3, if_neg h3, rowE_until hw r]
theorem hex_row {c : UInt8} (h : isHexB c = true) : badB c = false ∧ ¬ c = 37 := by
  have h1 : ∀ n : Fin 256, isHexB (UInt8.ofNat n.val) = true → badB (UInt8.ofNat n.val) = false ∧ ¬ UInt8.ofNat n.val = 37 := by decide
  have h2 := h1 ⟨c.toNat, c.toNat_lt⟩
  simp only [UInt8.ofNat_toNat] at h2
  exact h2 h
/-- The first place at which a text is no row. -/
def rbad (s : Bs) : Int := if (rowE [] s).2 = true then -1 else (rowE [] s).1
/-! Words. -/
def pass (t w : Bs) (i : Nat) : Int := if pmatch w (t.drop i) = w.length then -1 else ((i + pmatch w (t.drop i) : Nat) : Int)
end Go.Proofs.YtnainpghpjelcaaGreatDoor
/-
  CHAPTER 1's REFERENCE: ports; the reader's methods. (WITH run_drawN.)
-/
set_option linter.unusedSimpArgs false
set_option linter.unusedVariables false
namespace Go.Proofs.YtnainpghpjelcaaGreatDoor
open Go.Lw Go.RowKit
set_option maxRecDepth 100000
set_option maxHeartbeats 1000000

abbrev rdqL (t : Bs) (i b : Int) : List V := [.d (str t), .d (int i), .d (int b)]
/-- The first fault of a row is kept. -/
def keepB (b : Int) (i : Nat) (u : Bs) : Int := if 0 ≤ rbad u ∧ b < 0 then i + rbad u else b
end Go.Proofs.YtnainpghpjelcaaGreatDoor
