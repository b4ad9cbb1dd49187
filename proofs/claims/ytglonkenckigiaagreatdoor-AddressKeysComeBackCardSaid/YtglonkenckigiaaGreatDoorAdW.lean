/-
  DOMAINS: Domain. (WITH run_drawN.)
-/
import Derived.Test.YtglonkenckigiaaGreatDoorAdV
set_option linter.unusedSimpArgs false
set_option linter.unusedVariables false
namespace Go.Proofs.YtglonkenckigiaaGreatDoor
open Go.Lw Go.RowKit
set_option maxRecDepth 100000
set_option maxHeartbeats 1000000

@[simp] def domD (x : Bs × Bool × Nat) : D := .tup [str x.1, tru x.2.1, int x.2.2]
theorem hostS_len {s : Bs} (h : isHostS s = true) : s.length ≤ 253 := by
  simp only [isHostS, isHostB, Bool.and_eq_true, decide_eq_true_eq] at h
  exact h.1.1
end Go.Proofs.YtglonkenckigiaaGreatDoor
