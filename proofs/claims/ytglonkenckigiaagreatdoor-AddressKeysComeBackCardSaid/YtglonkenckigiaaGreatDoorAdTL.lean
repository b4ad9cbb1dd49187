/-
  ADDRESS: TrimLeft at "0"; what stands behind the calls of normal's first region. (WITH run_drawN.)
-/
import Derived.Test.YtglonkenckigiaaGreatDoorAdL
import Derived.Test.YtglonkenckigiaaGreatDoorLwTail
set_option linter.unusedSimpArgs false
set_option linter.unusedVariables false
namespace Go.Proofs.YtglonkenckigiaaGreatDoor
open Go.Lw Go.RowKit
set_option maxRecDepth 100000
set_option maxHeartbeats 1000000

theorem trimLeftB_eq (c : UInt8) : ∀ l : Bs, Lib.trimLeftB l c = l.dropWhile fun x => decide (x = c)
  | [] => by simp [Lib.trimLeftB]
  | b :: l => by
    have ih := trimLeftB_eq c l
    unfold Lib.trimLeftB at ih ⊢
    by_cases h : b = c
    · simp [h] at ih ⊢; exact ih
    · simp [h]
theorem trimLeft_ok (s : Bs) : FnOk Tryz.prog 86 [str s, str [48]] (str (s.dropWhile fun c => decide (c = 48))) :=
  fnOk_lits [.string (bs s), .string (bs [48])] (by kernel_rfl) fun w _ => by
    have h := Tryz.strings_TrimLeft_one (bs s) 48 (by decide) w
    rw [← trimLeftB_eq]
    exact h
end Go.Proofs.YtglonkenckigiaaGreatDoor
