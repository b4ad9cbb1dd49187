/-
  CHAPTER 1's REFERENCE: Relative; AddressRelativesMatchSpec's own walk. (WITH run_drawN.)
-/
import Derived.Test.YtnainpghpjelcaaGreatDoorQB
import Derived.Test.YtnainpghpjelcaaGreatDoorQC
import Derived.Test.YtnainpghpjelcaaGreatDoorAdO
set_option linter.unusedSimpArgs false
set_option linter.unusedVariables false
namespace Go.Proofs.YtnainpghpjelcaaGreatDoor
open Go.Lw Go.RowKit
set_option maxRecDepth 100000
set_option maxHeartbeats 1000000

theorem qDots0_ok : FnOk Tryz.prog 222 [str []] (str []) := by
  refine fnOk Tryz.func222 rfl (by kernel_rfl) Tryz.ntmps222 _ rfl (by simp) fun C hc => ?_
  repeat' (first | (first | refine Ya ?_ | refine Yb ?_ | refine Yc ?_ | refine Yd ?_ | refine Ye ?_ | refine Yf ?_ | refine Yg ?_ | refine Yh ?_ | refine Yi ?_ | refine Yj ?_ | refine Yk ?_ | refine Yl ?_ | refine Ym ?_ | refine Yn ?_ | refine Yo ?_ | refine Yp (h := ?_) | refine Yq ?_ | refine Yr ?_ | refine Ys ?_ | refine Zr hc (hk := ?_) | refine Zd hc (hk := ?_) | (refine Zc (ht := fun hb => ?_) (hf := fun hb => ?_) <;> (try simp at hb)) | fail) | (first | refine Zo hc (hk := ?_) | refine Zu hc (hk := ?_) | refine Ze hc (hk := ?_) | refine Zn hc (hk := ?_) | fail))
  all_goals try contradiction
  (refine Zl hc (hr := ?_))
  simp
theorem qDotsA_ok (p : Bs) (h : p = [] ∨ p[0]? = some 47) (hm : p.length ≤ 100000) : FnOk Tryz.prog 222 [str p] (str (undotP p)) := by
  cases p with
  | nil => exact qDots0_ok
  | cons c r =>
    have e : c = 47 := by
      rcases h with h | h
      · cases h
      · simpa using h
    subst e
    exact qDots_ok r (by simp at hm; omega)
end Go.Proofs.YtnainpghpjelcaaGreatDoor
