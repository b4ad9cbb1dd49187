/-
  CHAPTER 1's REFERENCE: the check of a rule of sameness. (WITH run_drawN.)
-/
import Derived.Test.YtglonkenckigiaaGreatDoorKeyPc
import Derived.Test.YtglonkenckigiaaGreatDoorQB
set_option linter.unusedSimpArgs false
set_option linter.unusedVariables false
namespace Go.Proofs.YtglonkenckigiaaGreatDoor
open Go.Lw Go.RowKit
set_option maxRecDepth 100000
set_option maxHeartbeats 1000000

/-- A byte that no name of a rule has. -/
def badN (c : UInt8) : Bool := decide (c ∈ ([47, 63, 38, 61, 37] : Bs)) || isUp c
def namedR (x : Rul) : Bool := decide (x.1 = 5) || decide (x.1 = 7)
/-- The fault of one rule. -/
def ruleE (x : Rul) : Nat := if x.1 < 1 ∨ 7 < x.1 then 4 else if decide (x.2 = []) = namedR x ∨ ¬ isRow [] x.2 then 3 else if x.2.any badN = true then 3 else 0
theorem any_step (n : Bs) (j : Nat) (h : j < n.length) : (n.drop j).any badN = (badN (n[j]?.getD 0) || (n.drop (j + 1)).any badN) := by
  rw [List.drop_eq_getElem_cons h, List.any_cons, List.getElem?_eq_getElem h]
  rfl
theorem badN_iff (c : UInt8) : badN c = true ↔ ((c.toNat : Int) = 47 ∨ (c.toNat : Int) = 63 ∨ (c.toNat : Int) = 38 ∨ (c.toNat : Int) = 61 ∨ (c.toNat : Int) = 37 ∨ (65 ≤ (c.toNat : Int) ∧ (c.toNat : Int) ≤ 90)) := by
  have h : ∀ d : UInt8, c = d ↔ (c.toNat : Int) = d.toNat := fun d => by
    rw [← UInt8.toNat_inj]
    omega
  have e : badN c = true ↔ (c = 47 ∨ c = 63 ∨ c = 38 ∨ c = 61 ∨ c = 37) ∨ isUp c = true := by simp [badN]
  rw [e, h 47, h 63, h 38, h 61, h 37]
  simp [isUp]
  omega
theorem qCheckSame1_ok (x : Rul) (hx : x.2.length ≤ 4611686018427387904) : FnOk Tryz.prog 80 [rulD x] (int (ruleE x)) := by
  refine fnOk Tryz.func80 rfl (by kernel_rfl) Tryz.ntmps80 _ rfl (by simp) fun C hc => ?_
  obtain ⟨k, n⟩ := x
  simp only at hx
  have hR := qIsRow_ok n hx
  have e1 : (decide (n = []) = namedR (k, n)) ↔ (List.isEmpty n = (decide (k = 5) || decide (k = 7))) := by
    unfold namedR
    cases n <;> simp
  unfold ruleE
  simp only [e1]
  repeat' (first | (first | refine Ya ?_ | refine Yb ?_ | refine Yc ?_ | refine Yd ?_ | refine Ye ?_ | refine Yf ?_ | refine Yg ?_ | refine Yh ?_ | refine Yi ?_ | refine Yj ?_ | refine Yk ?_ | refine Yl ?_ | refine Ym ?_ | refine Yn ?_ | refine Yo ?_ | refine Yp (h := ?_) | refine Yq ?_ | refine Yr ?_ | refine Ys ?_ | refine Zr hc (hk := ?_) | refine Zd hc (hk := ?_) | (refine Zc (ht := fun hb => ?_) (hf := fun hb => ?_) <;> (try simp at hb)) | fail) | (first | refine Zw hc (hf := by exact hR) (hk := ?_) | refine Zq hc (hf := by exact hR) (hk := ?_) | refine Zo hc (hk := ?_) | refine Zu hc (hk := ?_) | refine Ze hc (hk := ?_) | refine Zn hc (hk := ?_) | fail))
  · rw [if_pos hb]
    (refine Zl hc (hr := ?_))
    simp
  · rename_i h1
    rw [if_neg (by omega), if_pos (by
      rcases hb with h | h
      · left
        cases hn : List.isEmpty n <;> by_cases h5 : k = 5 <;> by_cases h7 : k = 7 <;> simp_all
      · exact .inr h)]
    (refine Zl hc (hr := ?_))
    simp
  · rename_i h1
    rw [if_neg (by omega), if_neg (by
      rintro (h | h)
      · cases hn : List.isEmpty n <;> by_cases h5 : k = 5 <;> by_cases h7 : k = 7 <;> simp_all
      · exact h hb.2)]
    refine ewp_loop (fun j : Nat => ⟨[(1, .bp 1 0), (4, .d (int j))], [(1, .box 77 [.d (int k), .d (str n)])]⟩) (fun j => j ≤ n.length ∧ n.any badN = (n.drop j).any badN) (fun j => n.length - j) 0 (by simp) (run_keep [1, 4] [1] (by simp; exact Gives.mk) (by simp; exact Gives.mk)) ?_
    rintro j ⟨hj, hA⟩
    have hst := any_step n j
    have hbn := badN_iff (n[j]?.getD 0)
    repeat' (first | (first | refine Ya ?_ | refine Yb ?_ | refine Yc ?_ | refine Yd ?_ | refine Ye ?_ | refine Yf ?_ | refine Yg ?_ | refine Yh ?_ | refine Yi ?_ | refine Yj ?_ | refine Yk ?_ | refine Yl ?_ | refine Ym ?_ | refine Yn ?_ | refine Yo ?_ | refine Yp (h := ?_) | refine Yq ?_ | refine Yr ?_ | refine Ys ?_ | refine Zr hc (hk := ?_) | refine Zd hc (hk := ?_) | (refine Zc (ht := fun hb => ?_) (hf := fun hb => ?_) <;> (try simp at hb)) | fail) | (first | refine Zo hc (hk := ?_) | refine Zu hc (hk := ?_) | refine Ze hc (hk := ?_) | refine Zn hc (hk := ?_) | fail))
    · rw [hA, hst (by assumption), hbn.2 (by omega)]
      (refine Zl hc (hr := ?_))
      simp
    · have hno : badN (n[j]?.getD 0) = false := Bool.eq_false_iff.2 fun e => by
        have := hbn.1 e
        omega
      refine ⟨j + 1, ⟨by omega, by rw [hA, hst (by assumption), hno]; rfl⟩, by omega, run_back [1, 4] [1] (by simp; exact Gives.mk) (by simp; exact Gives.mk) (by simp)⟩
    · rw [hA, List.drop_of_length_le (by omega)]
      (refine Zl hc (hr := ?_))
      simp
end Go.Proofs.YtglonkenckigiaaGreatDoor
/-
  CHAPTER 1's REFERENCE: CheckSameness. (WITH run_drawN.)
-/
set_option linter.unusedSimpArgs false
set_option linter.unusedVariables false
namespace Go.Proofs.YtglonkenckigiaaGreatDoor
open Go.Lw Go.RowKit
set_option maxRecDepth 100000
set_option maxHeartbeats 1000000

/-- A rule isn't behind the one ahead of it. -/
def ordBad (a b : Rul) : Prop := b.1 < a.1 ∨ (b.1 = a.1 ∧ (Op.bytesLess b.2 a.2 = true ∨ b.2 = a.2))
instance (a b : Rul) : Decidable (ordBad a b) := by unfold ordBad; infer_instance
abbrev rulAt (R : List Rul) (j : Nat) : Rul := R[j]?.getD (0, [])
def sameGo (R : List Rul) (j : Nat) : Nat :=
  if j < R.length then (if ruleE (rulAt R j) ≠ 0 then ruleE (rulAt R j) else if 0 < j ∧ ordBad (rulAt R (j - 1)) (rulAt R j) then 8 else sameGo R (j + 1)) else 0
termination_by R.length - j
/-- The fault of rules. -/
def sameC (R : List Rul) : Nat := if 50 < R.length then 2 else sameGo R 0
theorem qCheckSame_ok (R : List Rul) (hR : R.length ≤ 9223372036854775807) (hn : ∀ j, (rulAt R j).2.length ≤ 4611686018427387904) : FnOk Tryz.prog 37 [rulSl R] (int (sameC R)) := by
  refine fnOk Tryz.func37 rfl (by kernel_rfl) Tryz.ntmps37 _ rfl (by simp) fun C hc => ?_
  unfold sameC
  repeat' (first | (first | refine Ya ?_ | refine Yb ?_ | refine Yc ?_ | refine Yd ?_ | refine Ye ?_ | refine Yf ?_ | refine Yg ?_ | refine Yh ?_ | refine Yi ?_ | refine Yj ?_ | refine Yk ?_ | refine Yl ?_ | refine Ym ?_ | refine Yn ?_ | refine Yo ?_ | refine Yp (h := ?_) | refine Yq ?_ | refine Yr ?_ | refine Ys ?_ | refine Zr hc (hk := ?_) | refine Zd hc (hk := ?_) | (refine Zc (ht := fun hb => ?_) (hf := fun hb => ?_) <;> (try simp at hb)) | fail) | (first | refine Zo hc (hk := ?_) | refine Zu hc (hk := ?_) | refine Ze hc (hk := ?_) | refine Zn hc (hk := ?_) | fail))
  · rw [if_pos (by omega)]
    (refine Zl hc (hr := ?_))
    simp
  · rw [if_neg (by omega)]
    refine ewp_loop (fun j : Nat => ⟨[(0, .d (rulSl R)), (3, .d (int j))], []⟩) (fun j => j ≤ R.length ∧ sameGo R 0 = sameGo R j) (fun j => R.length - j) 0 (by simp) (run_keep [0, 3] [] (by simp; exact Gives.mk) (by simp; exact Gives.mk)) ?_
    rintro j ⟨hj, hA⟩
    have hst : sameGo R j = if j < R.length then (if ruleE (rulAt R j) ≠ 0 then ruleE (rulAt R j) else if 0 < j ∧ ordBad (rulAt R (j - 1)) (rulAt R j) then 8 else sameGo R (j + 1)) else 0 := by rw [sameGo]
    have h1 := qCheckSame1_ok (rulAt R j) (hn j)
    unfold ordBad at hst
    generalize ruleE (rulAt R j) = e at h1 hst
    repeat' (first | (first | refine Ya ?_ | refine Yb ?_ | refine Yc ?_ | refine Yd ?_ | refine Ye ?_ | refine Yf ?_ | refine Yg ?_ | refine Yh ?_ | refine Yi ?_ | refine Yj ?_ | refine Yk ?_ | refine Yl ?_ | refine Ym ?_ | refine Yn ?_ | refine Yo ?_ | refine Yp (h := ?_) | refine Yq ?_ | refine Yr ?_ | refine Ys ?_ | refine Zr hc (hk := ?_) | refine Zd hc (hk := ?_) | (refine Zc (ht := fun hb => ?_) (hf := fun hb => ?_) <;> (try simp at hb)) | fail) | (first | refine Zw hc (hf := by exact h1) (hk := ?_) | refine Zq hc (hf := by exact h1) (hk := ?_) | refine Zo hc (hk := ?_) | refine Zu hc (hk := ?_) | refine Ze hc (hk := ?_) | refine Zn hc (hk := ?_) | fail))
    · rw [hA, hst, if_pos (by assumption), if_pos hb]
      (refine Zl hc (hr := ?_))
      simp
    · rename_i he
      rw [hA, hst, if_pos (by assumption), if_neg (fun h => h he), if_pos hb]
      (refine Zl hc (hr := ?_))
      simp
    · rename_i he
      refine ⟨j + 1, ⟨by omega, ?_⟩, by omega, run_back [0, 3] [] (by simp; exact Gives.mk) (by simp; exact Gives.mk) (by simp)⟩
      rw [hA, hst, if_pos (by assumption), if_neg (fun h => h he), if_neg]
      rintro ⟨h0, h | ⟨h2, h3 | h3⟩⟩
      · have h5 := (hb h0).1
        have h6 : (R[j]?.getD (0, [])).1 < (R[j - 1]?.getD (0, [])).1 := h
        omega
      · rw [((hb h0).2 h2).1] at h3
        cases h3
      · exact ((hb h0).2 h2).2 h3
    · rw [hA, hst, if_neg (by omega)]
      (refine Zl hc (hr := ?_))
      simp
end Go.Proofs.YtglonkenckigiaaGreatDoor
