/-
  CHAPTER 1's REFERENCE: KeyOf without rules, OfKey. (WITH run_drawN.)
-/
import Derived.Test.YtglonkenckigiaaGreatDoorKeyS
set_option linter.unusedSimpArgs false
set_option linter.unusedVariables false
namespace Go.Proofs.YtglonkenckigiaaGreatDoor
open Go.Lw Go.RowKit
set_option maxRecDepth 100000
set_option maxHeartbeats 2000000

theorem ofK_none {s : Bs} (h : (41 : UInt8) ∉ s) (hl : ¬ 2000 < s.length) : ofK s = (Adr.zero, 10) := by
  rcases ofK_cases s with ⟨h1, h2⟩ | ⟨_, _, _, _, h3⟩
  · unfold ofK at h1 h2 ⊢
    rw [if_neg hl] at h1 h2 ⊢
    split
    · rfl
    · rename_i h3; rw [if_neg h3] at h1; exact absurd rfl h1
  · exfalso
    apply h
    rw [← h3]
    unfold keyN
    simp
theorem pre_one (c : UInt8) (s : Bs) : [c] <+: s → s = c :: s.tail := by
  rintro ⟨t, rfl⟩
  simp
theorem cutP_one (c : UInt8) (s : Bs) (h : [c] <+: s) : cutP s [c] = s.tail := by unfold cutP; rw [if_pos h]; simp
end Go.Proofs.YtglonkenckigiaaGreatDoor
