/-
  FRONTIER: what the laws share: 'awake', and how arguments are read.
-/
import Derived.Test.YtnainpghpjelcaaGreatDoorFrPeriod
import Derived.Test.YtnainpghpjelcaaGreatDoorLwCard
set_option linter.unusedSimpArgs false
set_option linter.unusedVariables false
namespace Go.Proofs.YtnainpghpjelcaaGreatDoor
open Go.Lw Go.RowKit Go.ChangeShapes Go.WideShapes Go.ChangeAt
set_option maxRecDepth 100000
set_option maxHeartbeats 400000

theorem awake5_ok : FnOk Tryz.prog 15 [] (tru true) := by
  refine fnOk Tryz.func15 rfl (by kernel_rfl) Tryz.ntmps15 _ rfl (by simp) fun C hc => ?_
  have hP : FnOk Tryz.prog 53 [.sl 3 (fun i => [[D.lit (.int .i64 0), .lit (.bool false)], [.lit (.int .i64 100), .lit (.bool true)], [.lit (.int .i64 400), .lit (.bool false)]].getD i [int 0, tru false]), int 1, int 1000] (.tup [int 266, int 0]) := by
    refine FnOk.sim (.cons (Sim.rows (e := encVis) (dflt := (0, false)) [(0, false), (100, true), (400, false)] rfl) (.cons (.refl _) (.cons (.refl _) .nil))) ?_
    have h := Period_ok [(0, false), (100, true), (400, false)] 1 1000 (by simp)
    have e1 : askPeriod [(0, false), (100, true), (400, false)] 1 1000 = 0 := by
      simp [askPeriod, checkVisits, visFrom]
    have e2 : period [(0, false), (100, true), (400, false)] 1 1000 = 266 := by
      simp [period, changes, chFrom]
    rw [show periodD [(0, false), (100, true), (400, false)] 1 1000 = .tup [int 266, int 0] by simp [periodD, e1, e2]] at h
    exact h
  repeat' (first | (first | refine Ya ?_ | refine Yb ?_ | refine Yc ?_ | refine Yd ?_ | refine Ye ?_ | refine Yf ?_ | refine Yg ?_ | refine Yh ?_ | refine Yi ?_ | refine Yj ?_ | refine Yk ?_ | refine Yl ?_ | refine Ym ?_ | refine Yn ?_ | refine Yo ?_ | refine Yp (h := ?_) | refine Yq ?_ | refine Yr ?_ | refine Ys ?_ | refine Zr hc (hk := ?_) | refine Zd hc (hk := ?_) | (refine Zc (ht := fun hb => ?_) (hf := fun hb => ?_) <;> (try simp at hb)) | fail) | (first | refine Zw hc (hf := by exact hP) (hk := ?_) | refine Zq hc (hf := by exact hP) (hk := ?_) | refine Zo hc (hk := ?_) | refine Zu hc (hk := ?_) | refine Ze hc (hk := ?_) | refine Zf hc (hk := ?_) | fail))
  all_goals (refine Zl hc (hr := ?_))
  all_goals simp
theorem opn_vis : Opn Tryz.prog 81 encVis (fun v => inR .i64 v.1) :=
  (opn_flds (total := 2) Tryz.underlying81 rfl (by kernel_rfl) (flds_cons (n := 1) (by kernel_rfl) (by simp) (opn_int Tryz.underlying3) (flds_cons (n := 1) (by kernel_rfl) (by simp) (opn_bool Tryz.underlying4) flds_nil))).map (fun x => (x.1, x.2.1)) (fun _ _ => rfl) (fun _ h => h.1)
theorem opn_visits : OpnA Tryz.prog 82 visSl (fun l => l.length ≤ maxLen ∧ ∀ x ∈ l, inR .i64 x.1) :=
  opnA_cell (opn_slice ((0, false) : Vis) Tryz.underlying82 (n := 2) (by kernel_rfl) (by omega) opn_vis) (fun _ => rfl) (by kernel_rfl)
theorem opnA_i : OpnA Tryz.prog 3 int (inR .i64) := opnA_cell (opn_int Tryz.underlying3) (fun _ => rfl) (by kernel_rfl)

end Go.Proofs.YtnainpghpjelcaaGreatDoor
