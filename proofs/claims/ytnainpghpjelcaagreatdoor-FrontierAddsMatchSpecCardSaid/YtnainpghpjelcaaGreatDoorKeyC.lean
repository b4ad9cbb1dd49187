/-
  ADDRESS: Key without rules, OfKey; AddressKeysComeBack's own walk. (WITH run_drawN.)
-/
import Derived.Test.YtnainpghpjelcaaGreatDoorKeyB
set_option linter.unusedSimpArgs false
set_option linter.unusedVariables false
namespace Go.Proofs.YtnainpghpjelcaaGreatDoor
open Go.Lw Go.RowKit
set_option maxRecDepth 100000
set_option maxHeartbeats 2000000

theorem ofKeyF_ok (s : Bs) (hm : s.length ≤ 9223372036854775807) : FnOk Tryz.prog 62 [str s] (.tup [adrD (ofK s).1, int (ofK s).2]) := by
  refine fnOk Tryz.func62 rfl (by kernel_rfl) Tryz.ntmps62 _ rfl (by simp) fun C hc => ?_
  have h := ofKey_ok s hm
  generalize ofK s = x at h ⊢
  repeat' (first | (first | refine Ya ?_ | refine Yb ?_ | refine Yc ?_ | refine Yd ?_ | refine Ye ?_ | refine Yf ?_ | refine Yg ?_ | refine Yh ?_ | refine Yi ?_ | refine Yj ?_ | refine Yk ?_ | refine Yl ?_ | refine Ym ?_ | refine Yn ?_ | refine Yo ?_ | refine Yp (h := ?_) | refine Yq ?_ | refine Yr ?_ | refine Ys ?_ | refine Zr hc (hk := ?_) | refine Zd hc (hk := ?_) | (refine Zc (ht := fun hb => ?_) (hf := fun hb => ?_) <;> (try simp at hb)) | fail) | (first | refine Zw hc (hf := by exact h) (hk := ?_) | refine Zq hc (hf := by exact h) (hk := ?_) | refine Zo hc (hk := ?_) | refine Zu hc (hk := ?_) | refine Ze hc (hk := ?_) | refine Zn hc (hk := ?_) | fail))
  (refine Zl hc (hr := ?_))
  simp
end Go.Proofs.YtnainpghpjelcaaGreatDoor
