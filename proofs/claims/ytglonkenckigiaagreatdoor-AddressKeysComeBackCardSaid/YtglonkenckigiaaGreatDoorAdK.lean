/-
  ADDRESS, IN PLAIN LEAN: the check of an address.
-/
import Derived.Test.YtglonkenckigiaaGreatDoorAdR
set_option linter.unusedSimpArgs false
set_option linter.unusedVariables false
namespace Go.Proofs.YtglonkenckigiaaGreatDoor
open Go.Lw
set_option maxRecDepth 100000
set_option maxHeartbeats 1000000

def chkS (a : Adr) : Prop := ¬ okS a.scheme ∨ isHostB a.host = false ∨ (a.port ≠ [] ∧ portB a.port = 0)
def chkR (a : Adr) : Prop := (a.path ≠ [] ∧ (a.path[0]?.getD 0).toNat ≠ 47) ∨ ¬ isRow [63] a.path ∨ ¬ isRow [] a.query ∨ ¬ isRow [] a.frag
def chkF (a : Adr) : Prop := (a.query ≠ [] ∧ a.hasQ = false) ∨ (a.frag ≠ [] ∧ a.hasF = false)
instance (a : Adr) : Decidable (chkS a) := by unfold chkS; infer_instance
instance (a : Adr) : Decidable (chkR a) := by unfold chkR; infer_instance
instance (a : Adr) : Decidable (chkF a) := by unfold chkF; infer_instance
/-- The error of an address. -/
def chkC (a : Adr) : Nat := if chkS a then 10 else if chkR a then 10 else if chkF a then 3 else if 2000 < (writeA a).length then 2 else 0
theorem chk_iff (a : Adr) : chkC a = 0 ↔ ChkA a ∧ (writeA a).length ≤ 2000 := by
  have hp : (a.path ≠ [] ∧ (a.path[0]?.getD 0).toNat ≠ 47) ↔ ¬ (a.path = [] ∨ a.path[0]? = some 47) := by
    cases a.path with
    | nil => simp
    | cons c r => simp [← UInt8.toNat_inj]
  unfold chkC
  constructor
  · intro h
    split at h
    · omega
    rename_i h1
    split at h
    · omega
    rename_i h2
    split at h
    · omega
    rename_i h3
    split at h
    · omega
    rename_i h4
    simp only [chkS, not_or, Classical.not_not, not_and] at h1
    simp only [chkR, not_or, Classical.not_not] at h2
    simp only [chkF, not_or, not_and] at h3
    exact ⟨⟨h1.1, by simpa using h1.2.1, by
      rcases Classical.em (a.port = []) with h | h
      · exact .inl h
      · exact .inr (h1.2.2 h), Classical.not_not.1 (fun e => h2.1 (hp.2 e)), h2.2.1, h2.2.2.1, h2.2.2.2, fun h => by simpa using h3.1 h, fun h => by simpa using h3.2 h⟩, by omega⟩
  · rintro ⟨⟨k1, k2, k3, k4, k5, k6, k7, k8, k9⟩, hl⟩
    rw [if_neg, if_neg, if_neg, if_neg (by omega)]
    · simp only [chkF, not_or, not_and]; exact ⟨fun h => by rw [k8 h]; decide, fun h => by rw [k9 h]; decide⟩
    · simp only [chkR, not_or, Classical.not_not]; exact ⟨fun e => hp.1 e k4, k5, k6, k7⟩
    · simp only [chkS, not_or, Classical.not_not, not_and]
      exact ⟨k1, by rw [k2]; decide, fun h => by
        rcases k3 with k | k
        · exact absurd k h
        · exact k⟩
def readC (t : Bs) : Adr × Nat × Nat := if 2000 < t.length then (Adr.zero, 0, 2) else match readP t with
  | .ok a => (a, 0, 0)
  | .error n => (Adr.zero, n, 10)
theorem readC_write (a : Adr) (h : chkC a = 0) : readC (writeA a) = (a, 0, 0) := by
  obtain ⟨h1, h2⟩ := (chk_iff a).1 h
  unfold readC
  rw [if_neg (by omega), readP_write a h1]
theorem readC_back (t : Bs) : ((readC t).2.2 ≠ 0 ∧ (readC t).1 = Adr.zero) ∨ ((readC t).2.2 = 0 ∧ (readC t).2.1 = 0 ∧ chkC (readC t).1 = 0 ∧ writeA (readC t).1 = t) := by
  unfold readC
  split
  · exact .inl ⟨by decide, rfl⟩
  · rename_i hl
    split
    · rename_i a h
      obtain ⟨h1, h2⟩ := readP_back h
      exact .inr ⟨rfl, rfl, (chk_iff a).2 ⟨h1, by rw [h2]; omega⟩, h2⟩
    · exact .inl ⟨by simp, rfl⟩
end Go.Proofs.YtglonkenckigiaaGreatDoor
