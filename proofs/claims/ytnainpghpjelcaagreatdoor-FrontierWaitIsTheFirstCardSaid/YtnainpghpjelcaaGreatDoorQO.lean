/-
  CHAPTER 1's REFERENCE: numbers of ports; the normal form of an address. (WITH run_drawN.)
-/
import Derived.Test.YtnainpghpjelcaaGreatDoorQD
import Derived.Test.YtnainpghpjelcaaGreatDoorQR
import Derived.Test.YtnainpghpjelcaaGreatDoorNm
import Derived.Test.YtnainpghpjelcaaGreatDoorLwFlt
import Derived.Test.YtnainpghpjelcaaGreatDoorLwAny
import Derived.Lib.AppendIntMem
set_option linter.unusedSimpArgs false
set_option linter.unusedVariables false
namespace Go.Proofs.YtnainpghpjelcaaGreatDoor
open Go.Lw Go.RowKit
set_option maxRecDepth 100000
set_option maxHeartbeats 1000000

abbrev noZero (s : Bs) : Bs := s.dropWhile fun c => decide (c = 48)
theorem digN_snoc (t : Bs) (c : UInt8) : digN (t ++ [c]) = 10 * digN t + (c.toNat - 48) := by simp [digN]
theorem last_cases (s : Bs) : s = [] ∨ ∃ t c, s = t ++ [c] := by
  rcases List.eq_nil_or_concat s with h | ⟨t, c, h⟩
  · exact .inl h
  · exact .inr ⟨t, c, by simpa using h⟩
theorem zero_drop (s : Bs) (h : s.all isDig = true) (h0 : digN s = 0) : noZero s = [] := by
  generalize hn : s.length = n
  induction n using Nat.strongRecOn generalizing s with
  | _ n ih =>
    rcases last_cases s with rfl | ⟨t, c, rfl⟩
    · rfl
    · rw [digN_snoc] at h0
      simp only [List.all_append, List.all_cons, List.all_nil, Bool.and_true, Bool.and_eq_true] at h
      have hc : 48 ≤ c.toNat ∧ c.toNat ≤ 57 := by simpa [isDig] using h.2
      have e : c = 48 := UInt8.toNat_inj.1 (by simp; omega)
      have ht := ih t.length (by simp at hn; omega) t h.1 (by omega) rfl
      unfold noZero at ht ⊢
      rw [List.dropWhile_append, ht, e]
      rfl
theorem dec_drop (s : Bs) (h : s.all isDig = true) (h0 : digN s ≠ 0) : Lib.decDigits (digN s) = noZero s := by
  generalize hn : s.length = n
  induction n using Nat.strongRecOn generalizing s with
  | _ n ih =>
    rcases last_cases s with rfl | ⟨t, c, rfl⟩
    · exact absurd rfl h0
    · rw [digN_snoc] at h0 ⊢
      simp only [List.all_append, List.all_cons, List.all_nil, Bool.and_true, Bool.and_eq_true] at h
      have hc : 48 ≤ c.toNat ∧ c.toNat ≤ 57 := by simpa [isDig] using h.2
      have ec : UInt8.ofNat (48 + (c.toNat - 48)) = c := UInt8.toNat_inj.1 (by simp; omega)
      by_cases hz : digN t = 0
      · have ht := zero_drop t h.1 hz
        unfold noZero at ht ⊢
        have hne : ¬ c = 48 := fun e => by rw [hz, e] at h0; exact h0 rfl
        rw [List.dropWhile_append, ht, hz]
        rw [show 10 * 0 + (c.toNat - 48) = c.toNat - 48 by omega, Lib.decDigits_one (by omega), ec]
        simp [hne]
      · have ht := ih t.length (by simp at hn; omega) t h.1 hz rfl
        have hne : noZero t ≠ [] := by
          intro e
          rw [← ht, Lib.decDigits] at e
          split at e <;> simp at e
        rw [Lib.decDigits, dif_neg (by omega), show (10 * digN t + (c.toNat - 48)) / 10 = digN t by omega, show (10 * digN t + (c.toNat - 48)) % 10 = c.toNat - 48 by omega, ht, ec]
        unfold noZero at hne ⊢
        rw [List.dropWhile_append, if_neg (by simpa using hne)]
theorem digN_drop : ∀ s : Bs, digN (noZero s) = digN s
  | [] => rfl
  | c :: r => by
    unfold noZero
    by_cases h : c = 48
    · rw [List.dropWhile_cons_of_pos (by simp [h])]
      have := digN_drop r
      unfold noZero at this
      rw [this, h]
      rfl
    · rw [List.dropWhile_cons_of_neg (by simp [h])]
/-- What the reference makes of a port that is right. -/
theorem port_q {sc p : Bs} (h : p.all isDig = true) (h0 : digN p ≠ 0) : portN sc (noZero p) = if ¬ (digN p = 80 ∧ sc = [104, 116, 116, 112]) ∧ ¬ (digN p = 443 ∧ sc = [104, 116, 116, 112, 115]) then Lib.decDigits (digN p) else [] := by
  have h1 := dec_drop p h h0
  have h2 := digN_drop p
  have e80 : noZero p = [56, 48] ↔ digN p = 80 := by
    constructor
    · intro e; rw [← h2, e]; rfl
    · intro e; rw [← h1, e]; decide +kernel
  have e443 : noZero p = [52, 52, 51] ↔ digN p = 443 := by
    constructor
    · intro e; rw [← h2, e]; rfl
    · intro e; rw [← h1, e]; decide +kernel
  unfold portN
  by_cases a : digN p = 80 ∧ sc = [104, 116, 116, 112]
  · rw [if_pos (.inl ⟨a.2, e80.2 a.1⟩), if_neg (fun h => h.1 a)]
  · by_cases b : digN p = 443 ∧ sc = [104, 116, 116, 112, 115]
    · rw [if_pos (.inr ⟨b.2, e443.2 b.1⟩), if_neg (fun h => h.2 b)]
    · rw [if_neg (fun h => h.elim (fun h => a ⟨e80.1 h.2, h.1⟩) (fun h => b ⟨e443.1 h.2, h.1⟩)), if_pos ⟨a, b⟩, h1]
theorem port_none (sc : Bs) : portN sc (noZero []) = [] := by unfold portN; split <;> rfl
end Go.Proofs.YtnainpghpjelcaaGreatDoor
/-
  CHAPTER 1's REFERENCE: the normal form of an address; AddressChecksMatchSpec's own walk. (WITH run_drawN.)
-/
set_option linter.unusedSimpArgs false
set_option linter.unusedVariables false
namespace Go.Proofs.YtnainpghpjelcaaGreatDoor
open Go.Lw Go.RowKit
set_option maxRecDepth 100000
set_option maxHeartbeats 2000000

theorem norm_47 {p : Bs} (h : p = [] ∨ p[0]? = some 47) : normR p = [] ∨ (normR p)[0]? = some 47 := by
  cases p with
  | nil => left; rfl
  | cons c r =>
    right
    have hc : c = 47 := by
      rcases h with h | h
      · cases h
      · simpa using h
    subst hc
    rw [normR.eq_def]
    simp only
    rw [if_neg (by decide)]
    rfl
end Go.Proofs.YtnainpghpjelcaaGreatDoor
