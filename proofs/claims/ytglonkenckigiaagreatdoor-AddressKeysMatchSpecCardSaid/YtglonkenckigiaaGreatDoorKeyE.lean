/-
  CHAPTER 1's REFERENCE: KeyOf by rules. (WITH run_drawN.)
-/
import Derived.Test.YtglonkenckigiaaGreatDoorKeySo
import Derived.Test.YtglonkenckigiaaGreatDoorKeyW
import Derived.Test.YtglonkenckigiaaGreatDoorKeyPc
import Derived.Test.YtglonkenckigiaaGreatDoorKeyT
import Derived.Test.YtglonkenckigiaaGreatDoorKeyD
set_option linter.unusedSimpArgs false
set_option linter.unusedVariables false
namespace Go.Proofs.YtglonkenckigiaaGreatDoor
open Go.Lw Go.RowKit
set_option maxRecDepth 100000
set_option maxHeartbeats 2000000

theorem qKey_ok (a : Adr) (R : List Rul) (h : chkC a = 0) (hpc : pcOk (normA a).path) (hm : R.length ≤ 200000) (h0 : ((5, []) : Rul) ∉ R) : FnOk Tryz.prog 70 [adrD a, rulSl R] (str (keyR (normA a) R)) := by
  refine fnOk Tryz.func70 rfl (by kernel_rfl) Tryz.ntmps70 _ rfl (by simp) fun C hc => ?_
  have hN := qNormalOf_ok a h
  obtain ⟨k1, k2, k3, k4⟩ := norm_parts h
  generalize normA a = n at hN k1 k2 k3 k4 hpc ⊢
  have hHP := hasPrefix_ok n.host wwwB
  have hP := qPathOf_ok n.path R (by omega) hm hpc h0
  have hPl := pathK_len n.path R
  have hQ := qQueryOf_ok n.query R (by omega) hm
  have hQl := queryK_len n.query R (by omega)
  have h1 := says_ok R 1 [] hm
  have h2 := says_ok R 2 [] hm
  have eW : (wwwB.isPrefixOf n.host = true) ↔ wwwB <+: n.host := List.isPrefixOf_iff_prefix
  have h4 : wwwB.isPrefixOf n.host = true → 4 ≤ n.host.length := fun e => by
    have := (eW.1 e).length_le
    exact this
  have eH : hostR n R = if wwwB.isPrefixOf n.host = true ∧ decide (((2, []) : Rul) ∈ R) = true then n.host.drop 4 else n.host := by
    unfold hostR
    simp only [eW, decide_eq_true_eq]
  have eS : (if n.scheme = httpsB ∧ (1, []) ∉ R then [115] else []) = (if n.scheme = httpsB ∧ decide (((1, []) : Rul) ∈ R) = false then [115] else ([] : Bs)) := by simp
  unfold keyR
  rw [eH, eS]
  clear eH eS eW
  generalize wwwB.isPrefixOf n.host = bw at hHP h4 ⊢
  generalize decide (((2, []) : Rul) ∈ R) = b2 at h2 ⊢
  generalize decide (((1, []) : Rul) ∈ R) = b1 at h1 ⊢
  generalize pathK n.path R = pk at hP hPl ⊢
  generalize queryK n.query R = qk at hQ hQl ⊢
  unfold pPart
  unfold wwwB at hHP
  have hXl : (if bw = true ∧ b2 = true then n.host.drop 4 else n.host).length ≤ 2001 := by split <;> (try simp) <;> omega
  have hT := qTurned_ok (if bw = true ∧ b2 = true then n.host.drop 4 else n.host) (by omega)
  have htl := turn_len (if bw = true ∧ b2 = true then n.host.drop 4 else n.host) 46 44
  generalize turnP (if bw = true ∧ b2 = true then n.host.drop 4 else n.host) 46 44 = tu at hT htl ⊢
  rw [← htl] at hXl
  clear htl
  cases bw <;> cases b2 <;> cases b1 <;> (try simp only [and_true, and_false, true_and, false_and, if_true, if_false, Bool.false_eq_true, reduceCtorEq] at hT) <;> (try simp only [forall_const, Bool.false_eq_true, reduceCtorEq, false_imp_iff] at h4) <;> refine id ?_
  all_goals repeat' (first | (first | refine Ya ?_ | refine Yb ?_ | refine Yc ?_ | refine Yd ?_ | refine Ye ?_ | refine Yf ?_ | refine Yg ?_ | refine Yh ?_ | refine Yi ?_ | refine Yj ?_ | refine Yk ?_ | refine Yl ?_ | refine Ym ?_ | refine Yn ?_ | refine Yo ?_ | refine Yp (h := ?_) | refine Yq ?_ | refine Yr ?_ | refine Ys ?_ | refine Zr hc (hk := ?_) | refine Zd hc (hk := ?_) | (refine Zc (ht := fun hb => ?_) (hf := fun hb => ?_) <;> (try simp at hb)) | fail) | (first | refine Zw hc (hf := by first | exact hN | exact hHP | exact h2 | exact hT | exact h1 | exact hP | exact hQ) (hk := ?_) | refine Zq hc (hf := by first | exact hN | exact hHP | exact h2 | exact hT | exact h1 | exact hP | exact hQ) (hk := ?_) | refine Zo hc (hk := ?_) | refine Zu hc (hk := ?_) | refine Ze hc (hk := ?_) | refine Zn hc (hk := ?_) | fail))
  all_goals try contradiction
  all_goals (refine Zl hc (hr := ?_))
  all_goals simp_all [httpsB]
end Go.Proofs.YtglonkenckigiaaGreatDoor
/-
  ADDRESS: Key by rules, on both sides; AddressKeysMatchSpec's own walk. (WITH run_drawN.)
-/
set_option linter.unusedSimpArgs false
set_option linter.unusedVariables false
namespace Go.Proofs.YtglonkenckigiaaGreatDoor
open Go.Lw Go.RowKit Go.ChangeShapes Go.WideShapes Go.ChangeAt
set_option maxRecDepth 100000
set_option maxHeartbeats 2000000

/-- Key, by rules. -/
def keyS (a : Adr) (R : List Rul) : Bs × Nat :=
  if chkC a ≠ 0 then ([], chkC a) else if sameC R ≠ 0 then ([], sameC R) else if chkC (normA a) ≠ 0 then ([], chkC (normA a)) else (keyR (normA a) R, 0)
/-- Rules that may come in. -/
def RulFits (R : List Rul) : Prop := R.length ≤ maxLen ∧ ∀ x ∈ R, inR .i64 x.1 ∧ x.2.length ≤ reachBytes
theorem rul_at {R : List Rul} (h : RulFits R) (j : Nat) : (rulAt R j).2.length ≤ 4611686018427387904 := by
  rcases Nat.lt_or_ge j R.length with hj | hj
  · have := (h.2 _ (List.getElem_mem hj)).2
    simp only [reachBytes] at this
    simp only [rulAt, List.getElem?_eq_getElem hj, Option.getD_some]
    omega
  · simp only [rulAt, List.getElem?_eq_none hj]
    simp
theorem rul_len {R : List Rul} (h : RulFits R) : R.length ≤ 9223372036854775807 := by
  have := h.1
  simp only [maxLen] at this
  omega
theorem sameGo_rule (R : List Rul) (j : Nat) (h : sameGo R j = 0) : ∀ i, j ≤ i → i < R.length → ruleE (rulAt R i) = 0 := by
  intro i hji hi
  rw [sameGo, if_pos (by omega)] at h
  by_cases h1 : ruleE (rulAt R j) ≠ 0
  · rw [if_pos h1] at h; exact absurd h h1
  · rw [if_neg h1] at h
    split at h
    · cases h
    · rcases Nat.lt_or_ge j i with h2 | h2
      · exact sameGo_rule R (j + 1) h i (by omega) hi
      · obtain rfl : i = j := by omega
        omega
termination_by R.length - j
theorem same_none {R : List Rul} (h : sameC R = 0) : R.length ≤ 200000 ∧ ((5, []) : Rul) ∉ R := by
  unfold sameC at h
  split at h
  · cases h
  · refine ⟨by omega, fun hm => ?_⟩
    obtain ⟨i, hi, he⟩ := List.getElem_of_mem hm
    have := sameGo_rule R 0 h i (by omega) hi
    simp only [rulAt, List.getElem?_eq_getElem hi, Option.getD_some, he] at this
    revert this
    decide +kernel
theorem keyF_ok (a : Adr) (R : List Rul) (hf : a.Fits) (hR : RulFits R) : FnOk Tryz.prog 27 [adrD a, rulSl R] (.tup [str (keyS a R).1, int (keyS a R).2]) := by
  refine fnOk Tryz.func27 rfl (by kernel_rfl) Tryz.ntmps27 _ rfl (by simp) fun C hc => ?_
  have hC := check_ok a hf
  have hN := normal_ok' normal_is a hf
  have hS := sameCheck_ok R (rul_len hR) (rul_at hR)
  unfold keyS
  by_cases h1 : chkC a = 0
  rotate_left
  · rw [if_pos h1]
    generalize chkC a = k at hC h1 ⊢
    repeat' (first | (first | refine Ya ?_ | refine Yb ?_ | refine Yc ?_ | refine Yd ?_ | refine Ye ?_ | refine Yf ?_ | refine Yg ?_ | refine Yh ?_ | refine Yi ?_ | refine Yj ?_ | refine Yk ?_ | refine Yl ?_ | refine Ym ?_ | refine Yn ?_ | refine Yo ?_ | refine Yp (h := ?_) | refine Yq ?_ | refine Yr ?_ | refine Ys ?_ | refine Zr hc (hk := ?_) | refine Zd hc (hk := ?_) | (refine Zc (ht := fun hb => ?_) (hf := fun hb => ?_) <;> (try simp at hb)) | fail) | (first | refine Zw hc (hf := by exact hC) (hk := ?_) | refine Zq hc (hf := by exact hC) (hk := ?_) | refine Zo hc (hk := ?_) | refine Zu hc (hk := ?_) | refine Ze hc (hk := ?_) | refine Zn hc (hk := ?_) | fail))
    all_goals try contradiction
    (refine Zl hc (hr := ?_))
    simp
  rw [if_neg (fun h => h h1)]
  rw [h1] at hC
  by_cases h0 : sameC R = 0
  rotate_left
  · rw [if_pos h0]
    generalize sameC R = k at hS h0 ⊢
    repeat' (first | (first | refine Ya ?_ | refine Yb ?_ | refine Yc ?_ | refine Yd ?_ | refine Ye ?_ | refine Yf ?_ | refine Yg ?_ | refine Yh ?_ | refine Yi ?_ | refine Yj ?_ | refine Yk ?_ | refine Yl ?_ | refine Ym ?_ | refine Yn ?_ | refine Yo ?_ | refine Yp (h := ?_) | refine Yq ?_ | refine Yr ?_ | refine Ys ?_ | refine Zr hc (hk := ?_) | refine Zd hc (hk := ?_) | (refine Zc (ht := fun hb => ?_) (hf := fun hb => ?_) <;> (try simp at hb)) | fail) | (first | refine Zw hc (hf := by first | exact hC | exact hS) (hk := ?_) | refine Zq hc (hf := by first | exact hC | exact hS) (hk := ?_) | refine Zo hc (hk := ?_) | refine Zu hc (hk := ?_) | refine Ze hc (hk := ?_) | refine Zn hc (hk := ?_) | fail))
    all_goals try contradiction
    (refine Zl hc (hr := ?_))
    simp
  rw [if_neg (fun h => h h0)]
  rw [h0] at hS
  obtain ⟨h3, h4⟩ := same_none h0
  by_cases h2 : chkC (normA a) = 0
  · rw [if_neg (fun h => h h2)]
    have hK := key_ok a R h1 (pcOk_norm h2) h3
    have e : normalC a = (normA a, 0) := by unfold normalC; rw [if_neg (fun h => h h1), if_neg (fun h => h h2)]
    rw [e] at hN
    generalize keyR (normA a) R = kk at hK ⊢
    generalize normA a = b at hN
    repeat' (first | (first | refine Ya ?_ | refine Yb ?_ | refine Yc ?_ | refine Yd ?_ | refine Ye ?_ | refine Yf ?_ | refine Yg ?_ | refine Yh ?_ | refine Yi ?_ | refine Yj ?_ | refine Yk ?_ | refine Yl ?_ | refine Ym ?_ | refine Yn ?_ | refine Yo ?_ | refine Yp (h := ?_) | refine Yq ?_ | refine Yr ?_ | refine Ys ?_ | refine Zr hc (hk := ?_) | refine Zd hc (hk := ?_) | (refine Zc (ht := fun hb => ?_) (hf := fun hb => ?_) <;> (try simp at hb)) | fail) | (first | refine Zw hc (hf := by first | exact hC | exact hS | exact hN | exact hK) (hk := ?_) | refine Zq hc (hf := by first | exact hC | exact hS | exact hN | exact hK) (hk := ?_) | refine Zo hc (hk := ?_) | refine Zu hc (hk := ?_) | refine Ze hc (hk := ?_) | refine Zn hc (hk := ?_) | fail))
    all_goals try contradiction
    (refine Zl hc (hr := ?_))
    simp
  · rw [if_pos h2]
    have e : normalC a = (Adr.zero, chkC (normA a)) := by unfold normalC; rw [if_neg (fun h => h h1), if_pos h2]
    rw [e] at hN
    generalize chkC (normA a) = k at hN h2 ⊢
    repeat' (first | (first | refine Ya ?_ | refine Yb ?_ | refine Yc ?_ | refine Yd ?_ | refine Ye ?_ | refine Yf ?_ | refine Yg ?_ | refine Yh ?_ | refine Yi ?_ | refine Yj ?_ | refine Yk ?_ | refine Yl ?_ | refine Ym ?_ | refine Yn ?_ | refine Yo ?_ | refine Yp (h := ?_) | refine Yq ?_ | refine Yr ?_ | refine Ys ?_ | refine Zr hc (hk := ?_) | refine Zd hc (hk := ?_) | (refine Zc (ht := fun hb => ?_) (hf := fun hb => ?_) <;> (try simp at hb)) | fail) | (first | refine Zw hc (hf := by first | exact hC | exact hS | exact hN) (hk := ?_) | refine Zq hc (hf := by first | exact hC | exact hS | exact hN) (hk := ?_) | refine Zo hc (hk := ?_) | refine Zu hc (hk := ?_) | refine Ze hc (hk := ?_) | refine Zn hc (hk := ?_) | fail))
    all_goals try contradiction
    (refine Zl hc (hr := ?_))
    simp
theorem qKeyF_ok (a : Adr) (R : List Rul) (hf : a.Fits) (hR : RulFits R) : FnOk Tryz.prog 35 [adrD a, rulSl R] (.tup [str (keyS a R).1, int (keyS a R).2]) := by
  refine fnOk Tryz.func35 rfl (by kernel_rfl) Tryz.ntmps35 _ rfl (by simp) fun C hc => ?_
  have hC := qCheck_ok a hf
  have hS := qCheckSame_ok R (rul_len hR) (rul_at hR)
  unfold keyS
  by_cases h1 : chkC a = 0
  rotate_left
  · rw [if_pos h1]
    generalize chkC a = k at hC h1 ⊢
    repeat' (first | (first | refine Ya ?_ | refine Yb ?_ | refine Yc ?_ | refine Yd ?_ | refine Ye ?_ | refine Yf ?_ | refine Yg ?_ | refine Yh ?_ | refine Yi ?_ | refine Yj ?_ | refine Yk ?_ | refine Yl ?_ | refine Ym ?_ | refine Yn ?_ | refine Yo ?_ | refine Yp (h := ?_) | refine Yq ?_ | refine Yr ?_ | refine Ys ?_ | refine Zr hc (hk := ?_) | refine Zd hc (hk := ?_) | (refine Zc (ht := fun hb => ?_) (hf := fun hb => ?_) <;> (try simp at hb)) | fail) | (first | refine Zw hc (hf := by exact hC) (hk := ?_) | refine Zq hc (hf := by exact hC) (hk := ?_) | refine Zo hc (hk := ?_) | refine Zu hc (hk := ?_) | refine Ze hc (hk := ?_) | refine Zn hc (hk := ?_) | fail))
    all_goals try contradiction
    (refine Zl hc (hr := ?_))
    simp
  rw [if_neg (fun h => h h1)]
  rw [h1] at hC
  by_cases h0 : sameC R = 0
  rotate_left
  · rw [if_pos h0]
    generalize sameC R = k at hS h0 ⊢
    repeat' (first | (first | refine Ya ?_ | refine Yb ?_ | refine Yc ?_ | refine Yd ?_ | refine Ye ?_ | refine Yf ?_ | refine Yg ?_ | refine Yh ?_ | refine Yi ?_ | refine Yj ?_ | refine Yk ?_ | refine Yl ?_ | refine Ym ?_ | refine Yn ?_ | refine Yo ?_ | refine Yp (h := ?_) | refine Yq ?_ | refine Yr ?_ | refine Ys ?_ | refine Zr hc (hk := ?_) | refine Zd hc (hk := ?_) | (refine Zc (ht := fun hb => ?_) (hf := fun hb => ?_) <;> (try simp at hb)) | fail) | (first | refine Zw hc (hf := by first | exact hC | exact hS) (hk := ?_) | refine Zq hc (hf := by first | exact hC | exact hS) (hk := ?_) | refine Zo hc (hk := ?_) | refine Zu hc (hk := ?_) | refine Ze hc (hk := ?_) | refine Zn hc (hk := ?_) | fail))
    all_goals try contradiction
    (refine Zl hc (hr := ?_))
    simp
  rw [if_neg (fun h => h h0)]
  rw [h0] at hS
  obtain ⟨h3, h4⟩ := same_none h0
  have hNa := qNormalOf_ok a h1
  have hC2 := qCheck_ok (normA a) (norm_fits h1)
  by_cases h2 : chkC (normA a) = 0
  · rw [if_neg (fun h => h h2)]
    have hK := qKey_ok a R h1 (pcOk_norm h2) h3 h4
    rw [h2] at hC2
    generalize keyR (normA a) R = kk at hK ⊢
    generalize normA a = b at hNa hC2
    repeat' (first | (first | refine Ya ?_ | refine Yb ?_ | refine Yc ?_ | refine Yd ?_ | refine Ye ?_ | refine Yf ?_ | refine Yg ?_ | refine Yh ?_ | refine Yi ?_ | refine Yj ?_ | refine Yk ?_ | refine Yl ?_ | refine Ym ?_ | refine Yn ?_ | refine Yo ?_ | refine Yp (h := ?_) | refine Yq ?_ | refine Yr ?_ | refine Ys ?_ | refine Zr hc (hk := ?_) | refine Zd hc (hk := ?_) | (refine Zc (ht := fun hb => ?_) (hf := fun hb => ?_) <;> (try simp at hb)) | fail) | (first | refine Zw hc (hf := by first | exact hC | exact hS | exact hNa | exact hC2 | exact hK) (hk := ?_) | refine Zq hc (hf := by first | exact hC | exact hS | exact hNa | exact hC2 | exact hK) (hk := ?_) | refine Zo hc (hk := ?_) | refine Zu hc (hk := ?_) | refine Ze hc (hk := ?_) | refine Zn hc (hk := ?_) | fail))
    all_goals try contradiction
    (refine Zl hc (hr := ?_))
    simp
  · rw [if_pos h2]
    generalize chkC (normA a) = k at hC2 h2 ⊢
    generalize normA a = b at hNa hC2
    repeat' (first | (first | refine Ya ?_ | refine Yb ?_ | refine Yc ?_ | refine Yd ?_ | refine Ye ?_ | refine Yf ?_ | refine Yg ?_ | refine Yh ?_ | refine Yi ?_ | refine Yj ?_ | refine Yk ?_ | refine Yl ?_ | refine Ym ?_ | refine Yn ?_ | refine Yo ?_ | refine Yp (h := ?_) | refine Yq ?_ | refine Yr ?_ | refine Ys ?_ | refine Zr hc (hk := ?_) | refine Zd hc (hk := ?_) | (refine Zc (ht := fun hb => ?_) (hf := fun hb => ?_) <;> (try simp at hb)) | fail) | (first | refine Zw hc (hf := by first | exact hC | exact hS | exact hNa | exact hC2) (hk := ?_) | refine Zq hc (hf := by first | exact hC | exact hS | exact hNa | exact hC2) (hk := ?_) | refine Zo hc (hk := ?_) | refine Zu hc (hk := ?_) | refine Ze hc (hk := ?_) | refine Zn hc (hk := ?_) | fail))
    all_goals try contradiction
    (refine Zl hc (hr := ?_))
    simp
theorem opn_rul : Opn Tryz.prog 77 rulCells (fun x : Rul => inR .i64 x.1 ∧ x.2.length ≤ reachBytes) :=
  (opn_flds (total := 2) Tryz.underlying77 rfl (by kernel_rfl) (flds_cons (n := 1) (by kernel_rfl) (by simp) (opn_int Tryz.underlying3) (flds_cons (n := 1) (by kernel_rfl) (by simp) opn_sW flds_nil))).map
    (fun x => ((x.1, x.2.1) : Rul)) (fun _ _ => rfl) (fun _ h => ⟨h.1, h.2.1⟩)
theorem opnA_ruls : OpnA Tryz.prog 46 rulSl RulFits :=
  opnA_cell (opn_slice ((0, []) : Rul) Tryz.underlying46 (n := 2) (by kernel_rfl) (by omega) opn_rul) (fun l => by simp) (by kernel_rfl)
theorem keysSpec_ok (a : Adr) (R : List Rul) (hf : a.Fits) (hR : RulFits R) : FnOk Tryz.prog 11 [adrD a, rulSl R] (tru true) := by
  refine fnOk Tryz.func11 rfl (by kernel_rfl) Tryz.ntmps11 _ rfl (by simp) fun C hc => ?_
  have h1 := keyF_ok a R hf hR
  have h2 := qKeyF_ok a R hf hR
  have h3 := sameCheck_ok R (rul_len hR) (rul_at hR)
  have h4 := qCheckSame_ok R (rul_len hR) (rul_at hR)
  generalize keyS a R = x at h1 h2
  generalize sameC R = k at h3 h4
  repeat' (first | (first | refine Ya ?_ | refine Yb ?_ | refine Yc ?_ | refine Yd ?_ | refine Ye ?_ | refine Yf ?_ | refine Yg ?_ | refine Yh ?_ | refine Yi ?_ | refine Yj ?_ | refine Yk ?_ | refine Yl ?_ | refine Ym ?_ | refine Yn ?_ | refine Yo ?_ | refine Yp (h := ?_) | refine Yq ?_ | refine Yr ?_ | refine Ys ?_ | refine Zr hc (hk := ?_) | refine Zd hc (hk := ?_) | (refine Zc (ht := fun hb => ?_) (hf := fun hb => ?_) <;> (try simp at hb)) | fail) | (first | refine Zw hc (hf := by first | exact h1 | exact h2 | exact h3 | exact h4 | exact awake_ok) (hk := ?_) | refine Zq hc (hf := by first | exact h1 | exact h2 | exact h3 | exact h4 | exact awake_ok) (hk := ?_) | refine Zo hc (hk := ?_) | refine Zu hc (hk := ?_) | refine Ze hc (hk := ?_) | refine Zn hc (hk := ?_) | fail))
  all_goals try contradiction
  (refine Zl hc (hr := ?_))
  simp
end Go.Proofs.YtglonkenckigiaaGreatDoor
