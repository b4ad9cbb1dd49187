/-
  CHAPTER 1's REFERENCE: KeyOf by rules. (WITH run_drawN.)
-/
import Derived.Test.YtpmfmjgnhdfakaaGreatDoorKeySo
import Derived.Test.YtpmfmjgnhdfakaaGreatDoorKeyW
import Derived.Test.YtpmfmjgnhdfakaaGreatDoorKeyD
import Derived.Test.YtpmfmjgnhdfakaaGreatDoorKeyH
set_option linter.unusedSimpArgs false
set_option linter.unusedVariables false
namespace Go.Proofs.YtpmfmjgnhdfakaaGreatDoor
open Go.Lw Go.RowKit
set_option maxRecDepth 100000
set_option maxHeartbeats 2000000

end Go.Proofs.YtpmfmjgnhdfakaaGreatDoor
/-
  ADDRESS: Key by rules, on both sides; AddressKeysMatchSpec's own walk. (WITH run_drawN.)
-/
set_option linter.unusedSimpArgs false
set_option linter.unusedVariables false
namespace Go.Proofs.YtpmfmjgnhdfakaaGreatDoor
open Go.Lw Go.RowKit Go.ChangeShapes Go.WideShapes Go.ChangeAt
set_option maxRecDepth 100000
set_option maxHeartbeats 2000000

/-- Key, by rules. -/
def keyS (a : Adr) (R : List Rul) : Bs × Nat :=
  if chkC a ≠ 0 then ([], chkC a) else if sameC R ≠ 0 then ([], sameC R) else if chkC (normA a) ≠ 0 then ([], chkC (normA a)) else (keyR (normA a) R, 0)
/-- Rules that may come in. -/
def RulFits (R : List Rul) : Prop := R.length ≤ maxLen ∧ ∀ x ∈ R, inR .i64 x.1 ∧ x.2.length ≤ reachBytes
theorem rul_at {R : List Rul} (h : RulFits R) (j : Nat) : (rulAt R j).2.length ≤ 4611686018427387904 := by
  rcases Nat.lt_or_ge j R.length with hj | hj
  · have := (h.2 _ (List.getElem_mem hj)).2
    simp only [reachBytes] at this
    simp only [rulAt, List.getElem?_eq_getElem hj, Option.getD_some]
    omega
  · simp only [rulAt, List.getElem?_eq_none hj]
    simp
theorem rul_len {R : List Rul} (h : RulFits R) : R.length ≤ 9223372036854775807 := by
  have := h.1
  simp only [maxLen] at this
  omega
theorem sameGo_rule (R : List Rul) (j : Nat) (h : sameGo R j = 0) : ∀ i, j ≤ i → i < R.length → ruleE (rulAt R i) = 0 := by
  intro i hji hi
  rw [sameGo, if_pos (by omega)] at h
  by_cases h1 : ruleE (rulAt R j) ≠ 0
  · rw [if_pos h1] at h; exact absurd h h1
  · rw [if_neg h1] at h
    split at h
    · cases h
    · rcases Nat.lt_or_ge j i with h2 | h2
      · exact sameGo_rule R (j + 1) h i (by omega) hi
      · obtain rfl : i = j := by omega
        omega
termination_by R.length - j
theorem same_none {R : List Rul} (h : sameC R = 0) : R.length ≤ 200000 ∧ ((5, []) : Rul) ∉ R := by
  unfold sameC at h
  split at h
  · cases h
  · refine ⟨by omega, fun hm => ?_⟩
    obtain ⟨i, hi, he⟩ := List.getElem_of_mem hm
    have := sameGo_rule R 0 h i (by omega) hi
    simp only [rulAt, List.getElem?_eq_getElem hi, Option.getD_some, he] at this
    revert this
    decide +kernel
theorem keyF_ok (a : Adr) (R : List Rul) (hf : a.Fits) (hR : RulFits R) : FnOk Tryz.prog 6 [adrD a, rulSl R] (.tup [str (keyS a R).1, int (keyS a R).2]) := by
  refine fnOk Tryz.func6 rfl (by kernel_rfl) Tryz.ntmps6 _ rfl (by simp) fun C hc => ?_
  have hC := check_ok a hf
  have hN := normal_ok' normal_is a hf
  have hS := sameCheck_ok R (rul_len hR) (rul_at hR)
  unfold keyS
  by_cases h1 : chkC a = 0
  rotate_left
  · rw [if_pos h1]
    generalize chkC a = k at hC h1 ⊢
    repeat' (first | (first | refine Ya ?_ | refine Yb ?_ | refine Yc ?_ | refine Yd ?_ | refine Ye ?_ | refine Yf ?_ | refine Yg ?_ | refine Yh ?_ | refine Yi ?_ | refine Yj ?_ | refine Yk ?_ | refine Yl ?_ | refine Ym ?_ | refine Yn ?_ | refine Yo ?_ | refine Yp (h := ?_) | refine Yq ?_ | refine Yr ?_ | refine Ys ?_ | refine Zr hc (hk := ?_) | refine Zd hc (hk := ?_) | (refine Zc (ht := fun hb => ?_) (hf := fun hb => ?_) <;> (try simp at hb)) | fail) | (first | refine Zw hc (hf := by exact hC) (hk := ?_) | refine Zq hc (hf := by exact hC) (hk := ?_) | refine Zo hc (hk := ?_) | refine Zu hc (hk := ?_) | refine Ze hc (hk := ?_) | refine Zn hc (hk := ?_) | fail))
    all_goals try contradiction
    (refine Zl hc (hr := ?_))
    simp
  rw [if_neg (fun h => h h1)]
  rw [h1] at hC
  by_cases h0 : sameC R = 0
  rotate_left
  · rw [if_pos h0]
    generalize sameC R = k at hS h0 ⊢
    repeat' (first | (first | refine Ya ?_ | refine Yb ?_ | refine Yc ?_ | refine Yd ?_ | refine Ye ?_ | refine Yf ?_ | refine Yg ?_ | refine Yh ?_ | refine Yi ?_ | refine Yj ?_ | refine Yk ?_ | refine Yl ?_ | refine Ym ?_ | refine Yn ?_ | refine Yo ?_ | refine Yp (h := ?_) | refine Yq ?_ | refine Yr ?_ | refine Ys ?_ | refine Zr hc (hk := ?_) | refine Zd hc (hk := ?_) | (refine Zc (ht := fun hb => ?_) (hf := fun hb => ?_) <;> (try simp at hb)) | fail) | (first | refine Zw hc (hf := by first | exact hC | exact hS) (hk := ?_) | refine Zq hc (hf := by first | exact hC | exact hS) (hk := ?_) | refine Zo hc (hk := ?_) | refine Zu hc (hk := ?_) | refine Ze hc (hk := ?_) | refine Zn hc (hk := ?_) | fail))
    all_goals try contradiction
    (refine Zl hc (hr := ?_))
    simp
  rw [if_neg (fun h => h h0)]
  rw [h0] at hS
  obtain ⟨h3, h4⟩ := same_none h0
  by_cases h2 : chkC (normA a) = 0
  · rw [if_neg (fun h => h h2)]
    have hK := key_ok a R h1 (pcOk_norm h2) h3
    have e : normalC a = (normA a, 0) := by unfold normalC; rw [if_neg (fun h => h h1), if_neg (fun h => h h2)]
    rw [e] at hN
    generalize keyR (normA a) R = kk at hK ⊢
    generalize normA a = b at hN
    repeat' (first | (first | refine Ya ?_ | refine Yb ?_ | refine Yc ?_ | refine Yd ?_ | refine Ye ?_ | refine Yf ?_ | refine Yg ?_ | refine Yh ?_ | refine Yi ?_ | refine Yj ?_ | refine Yk ?_ | refine Yl ?_ | refine Ym ?_ | refine Yn ?_ | refine Yo ?_ | refine Yp (h := ?_) | refine Yq ?_ | refine Yr ?_ | refine Ys ?_ | refine Zr hc (hk := ?_) | refine Zd hc (hk := ?_) | (refine Zc (ht := fun hb => ?_) (hf := fun hb => ?_) <;> (try simp at hb)) | fail) | (first | refine Zw hc (hf := by first | exact hC | exact hS | exact hN | exact hK) (hk := ?_) | refine Zq hc (hf := by first | exact hC | exact hS | exact hN | exact hK) (hk := ?_) | refine Zo hc (hk := ?_) | refine Zu hc (hk := ?_) | refine Ze hc (hk := ?_) | refine Zn hc (hk := ?_) | fail))
    all_goals try contradiction
    (refine Zl hc (hr := ?_))
    simp
  · rw [if_pos h2]
    have e : normalC a = (Adr.zero, chkC (normA a)) := by unfold normalC; rw [if_neg (fun h => h h1), if_pos h2]
    rw [e] at hN
    generalize chkC (normA a) = k at hN h2 ⊢
    repeat' (first | (first | refine Ya ?_ | refine Yb ?_ | refine Yc ?_ | refine Yd ?_ | refine Ye ?_ | refine Yf ?_ | refine Yg ?_ | refine Yh ?_ | refine Yi ?_ | refine Yj ?_ | refine Yk ?_ | refine Yl ?_ | refine Ym ?_ | refine Yn ?_ | refine Yo ?_ | refine Yp (h := ?_) | refine Yq ?_ | refine Yr ?_ | refine Ys ?_ | refine Zr hc (hk := ?_) | refine Zd hc (hk := ?_) | (refine Zc (ht := fun hb => ?_) (hf := fun hb => ?_) <;> (try simp at hb)) | fail) | (first | refine Zw hc (hf := by first | exact hC | exact hS | exact hN) (hk := ?_) | refine Zq hc (hf := by first | exact hC | exact hS | exact hN) (hk := ?_) | refine Zo hc (hk := ?_) | refine Zu hc (hk := ?_) | refine Ze hc (hk := ?_) | refine Zn hc (hk := ?_) | fail))
    all_goals try contradiction
    (refine Zl hc (hr := ?_))
    simp
theorem opn_rul : Opn Tryz.prog 102 rulCells (fun x : Rul => inR .i64 x.1 ∧ x.2.length ≤ reachBytes) :=
  (opn_flds (total := 2) Tryz.underlying102 rfl (by kernel_rfl) (flds_cons (n := 1) (by kernel_rfl) (by simp) (opn_int Tryz.underlying3) (flds_cons (n := 1) (by kernel_rfl) (by simp) opn_sW flds_nil))).map
    (fun x => ((x.1, x.2.1) : Rul)) (fun _ _ => rfl) (fun _ h => ⟨h.1, h.2.1⟩)
theorem opnA_ruls : OpnA Tryz.prog 27 rulSl RulFits :=
  opnA_cell (opn_slice ((0, []) : Rul) Tryz.underlying27 (n := 2) (by kernel_rfl) (by omega) opn_rul) (fun l => by simp) (by kernel_rfl)
end Go.Proofs.YtpmfmjgnhdfakaaGreatDoor
