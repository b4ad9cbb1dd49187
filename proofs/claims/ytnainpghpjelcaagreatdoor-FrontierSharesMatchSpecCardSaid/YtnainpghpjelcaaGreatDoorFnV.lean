/-
  FRONTIER: frontiers that are the same (reference's Same, at one and the same frontier). (WITH run_drawN.)
-/
import Derived.Test.YtnainpghpjelcaaGreatDoorFnT
set_option linter.unusedSimpArgs false
set_option linter.unusedVariables false
namespace Go.Proofs.YtnainpghpjelcaaGreatDoor
open Go.Lw Go.RowKit
set_option maxRecDepth 100000
set_option maxHeartbeats 2000000

theorem eqInts_ok (l : List Int) (hl : l.length ≤ 9223372036854775807) : FnOk Tryz.prog 26 [intSl l, intSl l] (tru true) := by
  refine fnOk Tryz.func26 rfl (by kernel_rfl) Tryz.ntmps26 _ rfl (by simp) fun C hc => ?_
  repeat' (first | (first | refine Ya ?_ | refine Yb ?_ | refine Yc ?_ | refine Yd ?_ | refine Ye ?_ | refine Yf ?_ | refine Yg ?_ | refine Yh ?_ | refine Yi ?_ | refine Yj ?_ | refine Yk ?_ | refine Yl ?_ | refine Ym ?_ | refine Yn ?_ | refine Yo ?_ | refine Yp (h := ?_) | refine Yq ?_ | refine Yr ?_ | refine Ys ?_ | refine Zr hc (hk := ?_) | refine Zd hc (hk := ?_) | (refine Zc (ht := fun hb => ?_) (hf := fun hb => ?_) <;> (try simp at hb)) | fail) | (first | refine Zo hc (hk := ?_) | refine Zu hc (hk := ?_) | refine Ze hc (hk := ?_) | refine Zn hc (hk := ?_) | fail))
  all_goals try contradiction
  refine ewp_loop (fun j : Nat => ⟨[(0, .d (intSl l)), (1, .d (intSl l)), (12, .d (int l.length)), (13, .d (int j))], []⟩) (fun j => j ≤ l.length) (fun j => l.length - j) 0 (by simp) (run_keep [0, 1, 12, 13] [] (by simp; exact Gives.mk) (by simp; exact Gives.mk)) ?_
  intro j hj
  repeat' (first | (first | refine Ya ?_ | refine Yb ?_ | refine Yc ?_ | refine Yd ?_ | refine Ye ?_ | refine Yf ?_ | refine Yg ?_ | refine Yh ?_ | refine Yi ?_ | refine Yj ?_ | refine Yk ?_ | refine Yl ?_ | refine Ym ?_ | refine Yn ?_ | refine Yo ?_ | refine Yp (h := ?_) | refine Yq ?_ | refine Yr ?_ | refine Ys ?_ | refine Zr hc (hk := ?_) | refine Zd hc (hk := ?_) | (refine Zc (ht := fun hb => ?_) (hf := fun hb => ?_) <;> (try simp at hb)) | fail) | (first | refine Zo hc (hk := ?_) | refine Zu hc (hk := ?_) | refine Ze hc (hk := ?_) | refine Zn hc (hk := ?_) | fail))
  all_goals try contradiction
  · exact ⟨j + 1, by omega, by omega, run_back [0, 1, 12, 13] [] (by simp; exact Gives.mk) (by simp; exact Gives.mk) (by simp)⟩
  · (refine Zl hc (hr := ?_))
    simp
end Go.Proofs.YtnainpghpjelcaaGreatDoor
