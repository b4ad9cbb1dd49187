/-
  CHAPTER 5's REFERENCE: the check of a frontier. (WITH run_drawN.)
-/
import Derived.Test.YtnainpghpjelcaaGreatDoorFnA
set_option linter.unusedSimpArgs false
set_option linter.unusedVariables false
namespace Go.Proofs.YtnainpghpjelcaaGreatDoor
open Go.Lw Go.RowKit
set_option maxRecDepth 100000
set_option maxHeartbeats 2000000

theorem qFrWithin_ok (n lo hi : Int) : FnOk Tryz.prog 72 [int n, int lo, int hi] (tru (decide (lo ≤ n ∧ n ≤ hi))) := by
  refine fnOk Tryz.func72 rfl (by kernel_rfl) Tryz.ntmps72 _ rfl (by simp) fun C hc => ?_
  repeat' (first | (first | refine Ya ?_ | refine Yb ?_ | refine Yc ?_ | refine Yd ?_ | refine Ye ?_ | refine Yf ?_ | refine Yg ?_ | refine Yh ?_ | refine Yi ?_ | refine Yj ?_ | refine Yk ?_ | refine Yl ?_ | refine Ym ?_ | refine Yn ?_ | refine Yo ?_ | refine Yp (h := ?_) | refine Yq ?_ | refine Yr ?_ | refine Ys ?_ | refine Zr hc (hk := ?_) | refine Zd hc (hk := ?_) | (refine Zc (ht := fun hb => ?_) (hf := fun hb => ?_) <;> (try simp at hb)) | fail) | (first | refine Zo hc (hk := ?_) | refine Zu hc (hk := ?_) | refine Ze hc (hk := ?_) | refine Zn hc (hk := ?_) | fail))
  (refine Zl hc (hr := ?_))
  simp
theorem qFrHost_ok (s : Bs) (hm : s.length ≤ 140737488351232) : FnOk Tryz.prog 139 [str s] (tru (isHo s)) := by
  refine fnOk Tryz.func139 rfl (by kernel_rfl) Tryz.ntmps139 _ rfl (by simp) fun C hc => ?_
  have h1 := qHostF_ok (s ++ [41, 47]) (by simp; omega)
  have h2 := qHostF_ok (s ++ [41, 115, 47]) (by simp; omega)
  unfold isHo
  generalize hostC (s ++ [41, 47]) = x at h1 ⊢
  generalize hostC (s ++ [41, 115, 47]) = y at h2 ⊢
  obtain ⟨x1, x2⟩ := x
  obtain ⟨y1, y2⟩ := y
  simp only at h1 h2
  repeat' (first | (first | refine Ya ?_ | refine Yb ?_ | refine Yc ?_ | refine Yd ?_ | refine Ye ?_ | refine Yf ?_ | refine Yg ?_ | refine Yh ?_ | refine Yi ?_ | refine Yj ?_ | refine Yk ?_ | refine Yl ?_ | refine Ym ?_ | refine Yn ?_ | refine Yo ?_ | refine Yp (h := ?_) | refine Yq ?_ | refine Yr ?_ | refine Ys ?_ | refine Zr hc (hk := ?_) | refine Zd hc (hk := ?_) | (refine Zc (ht := fun hb => ?_) (hf := fun hb => ?_) <;> (try simp at hb)) | fail) | (first | refine Zo hc (hk := ?_) | refine Zu hc (hk := ?_) | refine Ze hc (hk := ?_) | refine Zn hc (hk := ?_) | fail))
  (first | refine run_sealW 7 hc (by simp; exact Gives.mk) (by simp) ?_ | refine run_seal 7 hc (by simp; exact Gives.mk) (by simp) ?_)
  refine ewp_loop (fun j : Nat => ⟨[(0, .d (str s)), (7, .d (.sl 2 fun i => [[str [41, 47]], [str [41, 115, 47]]][i]?.getD [str []])), (8, .d (int 2)), (9, .d (int j))], []⟩) (fun j => j ≤ 2 ∧ (1 ≤ j → ¬ (x2 = 0 ∧ x1 = s)) ∧ (2 ≤ j → ¬ (y2 = 0 ∧ y1 = s))) (fun j => 2 - j) 0 (by simp) (run_keep [0, 7, 8, 9] [] (by simp; exact Gives.mk) (by simp; exact Gives.mk)) ?_
  rintro j ⟨hj, g1, g2⟩
  match j, hj with
  | 0, _ =>
    repeat' (first | (first | refine Ya ?_ | refine Yb ?_ | refine Yc ?_ | refine Yd ?_ | refine Ye ?_ | refine Yf ?_ | refine Yg ?_ | refine Yh ?_ | refine Yi ?_ | refine Yj ?_ | refine Yk ?_ | refine Yl ?_ | refine Ym ?_ | refine Yn ?_ | refine Yo ?_ | refine Yp (h := ?_) | refine Yq ?_ | refine Yr ?_ | refine Ys ?_ | refine Zr hc (hk := ?_) | refine Zd hc (hk := ?_) | (refine Zc (ht := fun hb => ?_) (hf := fun hb => ?_) <;> (try simp at hb)) | fail) | (first | refine Zw hc (hf := by exact h1) (hk := ?_) | refine Zq hc (hf := by exact h1) (hk := ?_) | refine Zo hc (hk := ?_) | refine Zu hc (hk := ?_) | refine Ze hc (hk := ?_) | refine Zn hc (hk := ?_) | fail))
    all_goals try (exfalso; omega)
    · (refine Zl hc (hr := ?_))
      simp [hb.1, hb.2]
    · exact ⟨1, ⟨by omega, fun _ e => by simp_all, fun h => by omega⟩, by omega, run_back [0, 7, 8, 9] [] (by simp; exact Gives.mk) (by simp; exact Gives.mk) (by simp)⟩
  | 1, _ =>
    repeat' (first | (first | refine Ya ?_ | refine Yb ?_ | refine Yc ?_ | refine Yd ?_ | refine Ye ?_ | refine Yf ?_ | refine Yg ?_ | refine Yh ?_ | refine Yi ?_ | refine Yj ?_ | refine Yk ?_ | refine Yl ?_ | refine Ym ?_ | refine Yn ?_ | refine Yo ?_ | refine Yp (h := ?_) | refine Yq ?_ | refine Yr ?_ | refine Ys ?_ | refine Zr hc (hk := ?_) | refine Zd hc (hk := ?_) | (refine Zc (ht := fun hb => ?_) (hf := fun hb => ?_) <;> (try simp at hb)) | fail) | (first | refine Zw hc (hf := by exact h2) (hk := ?_) | refine Zq hc (hf := by exact h2) (hk := ?_) | refine Zo hc (hk := ?_) | refine Zu hc (hk := ?_) | refine Ze hc (hk := ?_) | refine Zn hc (hk := ?_) | fail))
    all_goals try (exfalso; omega)
    · (refine Zl hc (hr := ?_))
      simp [hb.1, hb.2]
    · exact ⟨2, ⟨by omega, fun _ => g1 (by omega), fun _ e => by simp_all⟩, by omega, run_back [0, 7, 8, 9] [] (by simp; exact Gives.mk) (by simp; exact Gives.mk) (by simp)⟩
  | 2, _ =>
    repeat' (first | (first | refine Ya ?_ | refine Yb ?_ | refine Yc ?_ | refine Yd ?_ | refine Ye ?_ | refine Yf ?_ | refine Yg ?_ | refine Yh ?_ | refine Yi ?_ | refine Yj ?_ | refine Yk ?_ | refine Yl ?_ | refine Ym ?_ | refine Yn ?_ | refine Yo ?_ | refine Yp (h := ?_) | refine Yq ?_ | refine Yr ?_ | refine Ys ?_ | refine Zr hc (hk := ?_) | refine Zd hc (hk := ?_) | (refine Zc (ht := fun hb => ?_) (hf := fun hb => ?_) <;> (try simp at hb)) | fail) | (first | refine Zo hc (hk := ?_) | refine Zu hc (hk := ?_) | refine Ze hc (hk := ?_) | refine Zn hc (hk := ?_) | fail))
    all_goals try (exfalso; omega)
    have k1 := g1 (by omega)
    have k2 := g2 (by omega)
    (refine Zl hc (hr := ?_))
    refine res_bool ?_
    have e1 : decide ((x1, x2) = (s, 0)) = false := decide_eq_false fun e => k1 ⟨(Prod.mk.inj e).2, (Prod.mk.inj e).1⟩
    have e2 : decide ((y1, y2) = (s, 0)) = false := decide_eq_false fun e => k2 ⟨(Prod.mk.inj e).2, (Prod.mk.inj e).1⟩
    rw [e1, e2]
    rfl
end Go.Proofs.YtnainpghpjelcaaGreatDoor
