/-
  THE LIBRARY's CONTRACTS, off the shelf: prefixes, bytes in strings.
-/
import Derived.Test.YtglonkenckigiaaGreatDoorStr
set_option linter.unusedSimpArgs false
set_option linter.unusedVariables false
namespace Go.Proofs.YtglonkenckigiaaGreatDoor
open Go.Lw
set_option maxRecDepth 100000

theorem hasPrefix_ok (s p : Bs) : FnOk Tryz.prog 39 [str s, str p] (tru (p.isPrefixOf s)) :=
  fnOk_lits [.string (bs s), .string (bs p)] (by kernel_rfl) fun w _ => Tryz.strings_HasPrefix (bs s) (bs p) w
theorem indexByte_ok (s : Bs) (c : UInt8) : FnOk Tryz.prog 72 [str s, u8 c] (int (Lib.indexByte s c)) :=
  fnOk_lits [.string (bs s), .int .u8 (c.toNat : Int)] (by kernel_rfl) fun w _ => by
    have h := Tryz.strings_IndexByte (bs s) (c.toNat : Int) w
    simpa using h
theorem index_neg (l : Bs) (c : UInt8) : Lib.indexByte l c < 0 ↔ l.contains c = false := by
  induction l with
  | nil => simp [Lib.indexByte]
  | cons b l ih =>
    have hg := Lib.indexByte_ge l c
    simp only [Lib.indexByte]
    by_cases hb : b = c
    · subst hb; simp
    · have hb' : ¬ c = b := fun e => hb e.symm
      simp only [beq_iff_eq, hb, if_false, List.contains_cons, Bool.or_eq_false_iff, beq_eq_false_iff_ne, ne_eq, hb', not_false_eq_true, true_and]
      rw [← ih]
      split <;> omega
end Go.Proofs.YtglonkenckigiaaGreatDoor
