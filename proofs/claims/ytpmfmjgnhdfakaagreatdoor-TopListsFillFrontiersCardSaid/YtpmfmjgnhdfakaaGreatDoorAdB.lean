/-
  ADDRESS: rows, ends of hosts. (WITH run_drawN.)
-/
import Derived.Test.YtpmfmjgnhdfakaaGreatDoorAdI
set_option linter.unusedSimpArgs false
set_option linter.unusedVariables false
namespace Go.Proofs.YtpmfmjgnhdfakaaGreatDoor
open Go.Lw Go.RowKit
set_option maxRecDepth 100000
set_option maxHeartbeats 1000000

theorem badB_iff (c : UInt8) : badB c = true ↔ (c.toNat < 33 ∨ 126 < c.toNat) ∨ noRow.contains c = true := by simp [badB]
theorem has_iff (w : Bs) (c : UInt8) : w.contains c = true ↔ 0 ≤ Lib.indexByte w c := by
  have := index_neg w c
  cases h : w.contains c
  · rw [h] at this; simp at this; simp; omega
  · rw [h] at this; simp at this; simp; omega
theorem toNat_sign (c : UInt8) (n : Nat) (hn : n < 256) : c.toNat = n ↔ c = UInt8.ofNat n := by
  rw [← UInt8.toNat_inj]; simp; omega
/-! The cases of a step, as the walk tells them. -/
theorem row_in {w s : Bs} {j : Nat} (h : j < s.length) (h1 : 0 ≤ Lib.indexByte w (s[j]?.getD 0)) : rowAt w s j = (j, true) := by
  rw [rowAt_step w s j h, if_pos ((has_iff _ _).2 h1)]
theorem row_bad {w s : Bs} {j : Nat} (h : j < s.length) (h1 : Lib.indexByte w (s[j]?.getD 0) < 0) (h2 : (((s[j]?.getD 0).toNat : Int) < 33 ∨ 126 < ((s[j]?.getD 0).toNat : Int)) ∨ 0 ≤ Lib.indexByte [34, 35, 60, 62, 92, 94, 123, 124, 125, 96] (s[j]?.getD 0)) : rowAt w s j = (j, false) := by
  rw [rowAt_step w s j h, if_neg (fun e => by have := (has_iff _ _).1 e; omega), if_pos]
  rw [badB_iff]
  rcases h2 with h2 | h2
  · exact .inl (by omega)
  · exact .inr ((has_iff _ _).2 h2)
theorem row_step {w s : Bs} {j : Nat} (h : j < s.length) (h1 : Lib.indexByte w (s[j]?.getD 0) < 0) (h2 : (33 ≤ ((s[j]?.getD 0).toNat : Int) ∧ ((s[j]?.getD 0).toNat : Int) ≤ 126) ∧ Lib.indexByte [34, 35, 60, 62, 92, 94, 123, 124, 125, 96] (s[j]?.getD 0) < 0) :
    rowAt w s j = if s[j]?.getD 0 = 37 then (if j + 2 < s.length ∧ isHexB (s[j + 1]?.getD 0) = true ∧ isHexB (s[j + 2]?.getD 0) = true then rowAt w s (j + 3) else (j, false)) else rowAt w s (j + 1) := by
  rw [rowAt_step w s j h, if_neg (fun e => by have := (has_iff _ _).1 e; omega), if_neg]
  rw [badB_iff]
  rintro (h3 | h3)
  · omega
  · have := (has_iff _ _).1 h3
    have h4 := h2.2
    unfold noRow at this
    omega
theorem row_next {w s : Bs} {j : Nat} (h : j < s.length) (h1 : Lib.indexByte w (s[j]?.getD 0) < 0) (h2 : (33 ≤ ((s[j]?.getD 0).toNat : Int) ∧ ((s[j]?.getD 0).toNat : Int) ≤ 126) ∧ Lib.indexByte [34, 35, 60, 62, 92, 94, 123, 124, 125, 96] (s[j]?.getD 0) < 0)
    (h3 : ¬ ((s[j]?.getD 0).toNat : Int) = 37) : rowAt w s j = rowAt w s (j + 1) := by
  rw [row_step h h1 h2, if_neg]
  intro e; rw [e] at h3; exact h3 (by decide)
theorem row_pc {w s : Bs} {j : Nat} (h : j < s.length) (h1 : Lib.indexByte w (s[j]?.getD 0) < 0) (h2 : (33 ≤ ((s[j]?.getD 0).toNat : Int) ∧ ((s[j]?.getD 0).toNat : Int) ≤ 126) ∧ Lib.indexByte [34, 35, 60, 62, 92, 94, 123, 124, 125, 96] (s[j]?.getD 0) < 0)
    (h3 : ((s[j]?.getD 0).toNat : Int) = 37) : rowAt w s j = if j + 2 < s.length ∧ isHexB (s[j + 1]?.getD 0) = true ∧ isHexB (s[j + 2]?.getD 0) = true then rowAt w s (j + 3) else (j, false) := by
  rw [row_step h h1 h2, if_pos]
  rw [← UInt8.toNat_inj]; simp; omega
theorem rowEnd_ok (s w : Bs) (hm : s.length ≤ 4611686018427387904) : FnOk Tryz.prog 102 [str s, str w] (.tup [int (rowE w s).1, tru (rowE w s).2]) := by
  refine fnOk Tryz.func102 rfl (by kernel_rfl) Tryz.ntmps102 _ rfl (by simp) fun C hc => ?_
  rw [← rowAt_zero]
  repeat' (first | (first | refine Ya ?_ | refine Yb ?_ | refine Yc ?_ | refine Yd ?_ | refine Ye ?_ | refine Yf ?_ | refine Yg ?_ | refine Yh ?_ | refine Yi ?_ | refine Yj ?_ | refine Yk ?_ | refine Yl ?_ | refine Ym ?_ | refine Yn ?_ | refine Yo ?_ | refine Yp (h := ?_) | refine Yq ?_ | refine Yr ?_ | refine Ys ?_ | refine Zr hc (hk := ?_) | refine Zd hc (hk := ?_) | (refine Zc (ht := fun hb => ?_) (hf := fun hb => ?_) <;> (try simp at hb)) | fail) | (first | refine Zo hc (hk := ?_) | refine Zu hc (hk := ?_) | refine Ze hc (hk := ?_) | refine Zn hc (hk := ?_) | fail))
  refine ewp_loop (fun j : Nat => ⟨[(0, .d (str s)), (1, .d (str w)), (6, .d (int j))], []⟩) (fun j => j ≤ s.length ∧ rowAt w s 0 = rowAt w s j) (fun j => s.length - j) 0 (by simp) (run_keep [0, 1, 6] [] (by simp; exact Gives.mk) (by simp; exact Gives.mk)) ?_
  rintro j ⟨h1, h2⟩
  rw [h2]
  repeat' (first | (first | refine Ya ?_ | refine Yb ?_ | refine Yc ?_ | refine Yd ?_ | refine Ye ?_ | refine Yf ?_ | refine Yg ?_ | refine Yh ?_ | refine Yi ?_ | refine Yj ?_ | refine Yk ?_ | refine Yl ?_ | refine Ym ?_ | refine Yn ?_ | refine Yo ?_ | refine Yp (h := ?_) | refine Yq ?_ | refine Yr ?_ | refine Ys ?_ | refine Zr hc (hk := ?_) | refine Zd hc (hk := ?_) | (refine Zc (ht := fun hb => ?_) (hf := fun hb => ?_) <;> (try simp at hb)) | fail) | (first | refine Zw hc (hf := by first | exact indexByte_ok _ _ | exact adHex_ok _) (hk := ?_) | refine Zq hc (hf := by first | exact indexByte_ok _ _ | exact adHex_ok _) (hk := ?_) | refine Zo hc (hk := ?_) | refine Zu hc (hk := ?_) | refine Ze hc (hk := ?_) | refine Zn hc (hk := ?_) | fail))
  · rename_i h3
    rw [row_in (by omega) hb]
    (refine Zl hc (hr := ?_))
    simp
  · rename_i h4 h3
    rw [row_bad (by omega) h3 hb]
    (refine Zl hc (hr := ?_))
    simp
  · rename_i h6 h5 h4 h3
    rw [row_pc (by omega) h5 h4 h3, if_neg (fun e => by
      rcases hb with (h | h) | h
      · omega
      · rw [e.2.1] at h; cases h
      · rw [e.2.2] at h; cases h)]
    (refine Zl hc (hr := ?_))
    simp
  · rename_i h6 h5 h4 h3
    refine ⟨j + 3, ⟨by omega, ?_⟩, by omega, run_back [0, 1, 6] [] (by simp; exact Gives.mk) (by simp; exact Gives.mk) (by simp; omega)⟩
    rw [row_pc (by omega) h5 h4 h3, if_pos ⟨by omega, hb.1.2, hb.2⟩]
  · rename_i h5 h4 h3
    refine ⟨j + 1, ⟨by omega, ?_⟩, by omega, run_back [0, 1, 6] [] (by simp; exact Gives.mk) (by simp; exact Gives.mk) (by simp)⟩
    rw [row_next (by omega) h4 h3 hb]
  · rw [rowAt_end w s j (by omega)]
    (refine Zl hc (hr := ?_))
    simp
    omega
theorem hostEnd_ok (s : Bs) (hm : s.length ≤ 4611686018427387904) : FnOk Tryz.prog 64 [str s] (int (s.takeWhile hostB).length) := by
  refine fnOk Tryz.func64 rfl (by kernel_rfl) Tryz.ntmps64 _ rfl (by simp) fun C hc => ?_
  rw [show ((s.takeWhile hostB).length : Int) = (skip hostB s 0 : Nat) by simp [skip]]
  repeat' (first | (first | refine Ya ?_ | refine Yb ?_ | refine Yc ?_ | refine Yd ?_ | refine Ye ?_ | refine Yf ?_ | refine Yg ?_ | refine Yh ?_ | refine Yi ?_ | refine Yj ?_ | refine Yk ?_ | refine Yl ?_ | refine Ym ?_ | refine Yn ?_ | refine Yo ?_ | refine Yp (h := ?_) | refine Yq ?_ | refine Yr ?_ | refine Ys ?_ | refine Zr hc (hk := ?_) | refine Zd hc (hk := ?_) | (refine Zc (ht := fun hb => ?_) (hf := fun hb => ?_) <;> (try simp at hb)) | fail) | (first | refine Zo hc (hk := ?_) | refine Zu hc (hk := ?_) | refine Ze hc (hk := ?_) | refine Zn hc (hk := ?_) | fail))
  refine ewp_loop (fun j : Nat => ⟨[(0, .d (str s)), (3, .d (int j))], []⟩) (fun j => j ≤ s.length ∧ skip hostB s 0 = skip hostB s j) (fun j => s.length - j) 0 (by simp) (run_keep [0, 3] [] (by simp; exact Gives.mk) (by simp; exact Gives.mk)) ?_
  rintro j ⟨h1, h2⟩
  rw [h2]
  have hstep := fun h => skip_step hostB s j h
  have hend := fun h => skip_end hostB s j h
  have hL : ∀ c : UInt8, hostB c = (isLet c || isDig c || decide (c.toNat = 45) || decide (c.toNat = 46)) := fun _ => rfl
  repeat' (first | (first | refine Ya ?_ | refine Yb ?_ | refine Yc ?_ | refine Yd ?_ | refine Ye ?_ | refine Yf ?_ | refine Yg ?_ | refine Yh ?_ | refine Yi ?_ | refine Yj ?_ | refine Yk ?_ | refine Yl ?_ | refine Ym ?_ | refine Yn ?_ | refine Yo ?_ | refine Yp (h := ?_) | refine Yq ?_ | refine Yr ?_ | refine Ys ?_ | refine Zr hc (hk := ?_) | refine Zd hc (hk := ?_) | (refine Zc (ht := fun hb => ?_) (hf := fun hb => ?_) <;> (try simp at hb)) | fail) | (first | refine Zw hc (hf := by first | exact adLetter_ok _ | exact adDigit_ok _) (hk := ?_) | refine Zq hc (hf := by first | exact adLetter_ok _ | exact adDigit_ok _) (hk := ?_) | refine Zo hc (hk := ?_) | refine Zu hc (hk := ?_) | refine Ze hc (hk := ?_) | refine Zn hc (hk := ?_) | fail))
  · refine ⟨j + 1, ⟨by omega, ?_⟩, by omega, run_back [0, 3] [] (by simp; exact Gives.mk) (by simp; exact Gives.mk) (by simp)⟩
    rw [hstep hb.1, if_pos]
    rw [hL]
    rcases hb.2 with ((h | h) | h) | h
    · simp [h]
    · simp [h]
    · simp; omega
    · simp; omega
  · have : skip hostB s j = j := by
      by_cases h : j < s.length
      · rw [hstep h, if_neg]
        have h3 := hb h
        rw [hL, h3.1.1.1, h3.1.1.2]
        simp; omega
      · exact hend (by omega)
    rw [this]
    (refine Zl hc (hr := ?_))
    simp
theorem isRow_ok (s w : Bs) (hm : s.length ≤ 4611686018427387904) : FnOk Tryz.prog 52 [str s, str w] (tru (decide (isRow w s))) := by
  refine fnOk Tryz.func52 rfl (by kernel_rfl) Tryz.ntmps52 _ rfl (by simp) fun C hc => ?_
  repeat' (first | (first | refine Ya ?_ | refine Yb ?_ | refine Yc ?_ | refine Yd ?_ | refine Ye ?_ | refine Yf ?_ | refine Yg ?_ | refine Yh ?_ | refine Yi ?_ | refine Yj ?_ | refine Yk ?_ | refine Yl ?_ | refine Ym ?_ | refine Yn ?_ | refine Yo ?_ | refine Yp (h := ?_) | refine Yq ?_ | refine Yr ?_ | refine Ys ?_ | refine Zr hc (hk := ?_) | refine Zd hc (hk := ?_) | (refine Zc (ht := fun hb => ?_) (hf := fun hb => ?_) <;> (try simp at hb)) | fail) | (first | refine Zw hc (hf := by exact rowEnd_ok _ _ hm) (hk := ?_) | refine Zq hc (hf := by exact rowEnd_ok _ _ hm) (hk := ?_) | refine Zo hc (hk := ?_) | refine Zu hc (hk := ?_) | refine Ze hc (hk := ?_) | refine Zn hc (hk := ?_) | fail))
  (refine Zl hc (hr := ?_))
  refine res_bool ?_
  rw [Bool.eq_iff_iff]
  rw [decide_eq_true_iff, isRow, Prod.ext_iff, Bool.and_eq_true, beq_iff_eq, and_comm]
  exact and_congr_left fun _ => by omega
end Go.Proofs.YtpmfmjgnhdfakaaGreatDoor
