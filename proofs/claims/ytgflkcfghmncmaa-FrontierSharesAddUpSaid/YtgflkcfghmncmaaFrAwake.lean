/-
  FRONTIER: what the laws share: 'awake', and how arguments are read.
-/
import Derived.Test.YtgflkcfghmncmaaFrPeriod
import Derived.Test.YtgflkcfghmncmaaLwTop
namespace Go.Proofs.Ytgflkcfghmncmaa
open Go.Lw Go.RowKit Go.ChangeShapes Go.WideShapes Go.ChangeAt
set_option maxRecDepth 100000
set_option maxHeartbeats 400000

theorem awake_ok : FnOk Try.prog 12 [] (tru true) := by
  refine fnOk Try.func12 rfl (by kernel_rfl) Try.ntmps12 _ rfl (by simp) fun C hc => ?_
  have hP : FnOk Try.prog 6 [.sl 3 (fun i => [[D.lit (.int .i64 0), .lit (.bool false)], [.lit (.int .i64 100), .lit (.bool true)], [.lit (.int .i64 400), .lit (.bool false)]].getD i [int 0, tru false]), int 1, int 1000] (.tup [int 266, int 0]) := by
    refine FnOk.sim (.cons (Sim.rows (e := encVis) (dflt := (0, false)) [(0, false), (100, true), (400, false)] rfl) (.cons (.refl _) (.cons (.refl _) .nil))) ?_
    have h := Period_ok [(0, false), (100, true), (400, false)] 1 1000 (by simp)
    have e1 : askPeriod [(0, false), (100, true), (400, false)] 1 1000 = 0 := by
      simp [askPeriod, checkVisits, visFrom]
    have e2 : period [(0, false), (100, true), (400, false)] 1 1000 = 266 := by
      simp [period, changes, chFrom]
    rw [show periodD [(0, false), (100, true), (400, false)] 1 1000 = .tup [int 266, int 0] by simp [periodD, e1, e2]] at h
    exact h
  repeat' (first | (first | refine ewp_seq ?_ | refine run_region hc (by simp; exact Ends.go) (by first | exact True.intro | omega | (simp; done) | (simp; omega) | (simp at *; omega)) ?_ | refine run_draw hc (by kernel_rfl) (by kernel_rfl) (by simp; exact Ends.go) (by first | exact True.intro | omega | (simp; done) | (simp; omega) | (simp at *; omega)) ?_ | refine ewp_skip ?_ | refine ewp_block ?_ | refine ewp_exit ?_ | refine ewp_label ?_ | refine thenQ_normal ?_ | refine thenQ_ret ?_ | refine thenQ_exit ?_ | refine blockQ_normal ?_ | refine blockQ_ret ?_ | refine blockQ_here ?_ | refine blockQ_there (by decide) ?_ | refine ewp_ret ?_ | refine opsW_nil ?_ | refine quietW_nil ?_ | (refine run_cond (by simp; exact Gives.mk) (fun hb => ?_) (fun hb => ?_) <;> (try simp at hb)) | fail) | (first | refine run_callW hc (by simp; exact Gives.mk) (by simp; exact Gives.mk) (by simp; exact Gives.mk) (by simp; exact Gives.mk) (by simp; exact Gives.mk) (fun _ => by first | exact hP) (by simp) (by simp) ?_ | refine run_callQ hc (by simp; exact Gives.mk) (by simp; exact Gives.mk) (by simp; exact Gives.mk) (by simp; exact Gives.mk) (by simp; exact Gives.mk) (fun _ => by first | exact hP) (by simp) (by simp) ?_ | refine run_ops hc (by simp; first | exact Ends.go | exact Ends.halt) (by decide) (by first | exact True.intro | omega | (simp; done) | (simp; omega) | (simp at *; omega)) ?_ | refine run_quiet hc (by simp; first | exact Ends.go | exact Ends.halt) (by decide) (by first | exact True.intro | omega | (simp; done) | (simp; omega) | (simp at *; omega)) ?_ | refine run_regionW hc (by simp; exact Ends.halt) (by first | exact True.intro | omega | (simp; done) | (simp; omega) | (simp at *; omega)) ?_ | refine run_drawW hc (by kernel_rfl) (by kernel_rfl) (by simp; exact Ends.halt) (by first | exact True.intro | omega | (simp; done) | (simp; omega) | (simp at *; omega)) ?_ | fail))
  all_goals (refine run_leave hc (by simp; exact Gives.mk) ?_)
  all_goals simp
theorem opn_vis : Opn Try.prog 30 encVis (fun v => inR .i64 v.1) :=
  (opn_flds (total := 2) Try.underlying30 rfl (by kernel_rfl) (flds_cons (n := 1) (by kernel_rfl) (by simp) (opn_int Try.underlying3) (flds_cons (n := 1) (by kernel_rfl) (by simp) (opn_bool Try.underlying4) flds_nil))).map (fun x => (x.1, x.2.1)) (fun _ _ => rfl) (fun _ h => h.1)
theorem opn_visits : OpnA Try.prog 22 visSl (fun l => l.length ≤ maxLen ∧ ∀ x ∈ l, inR .i64 x.1) :=
  opnA_cell (opn_slice ((0, false) : Vis) Try.underlying22 (n := 2) (by kernel_rfl) (by omega) opn_vis) (fun _ => rfl) (by kernel_rfl)
theorem opnA_i : OpnA Try.prog 3 int (inR .i64) := opnA_cell (opn_int Try.underlying3) (fun _ => rfl) (by kernel_rfl)
theorem own : ownKnob Try.prog.godebug = none := by kernel_rfl
theorem laidOut : laidOutB Try.prog = true := by kernel_rfl

end Go.Proofs.Ytgflkcfghmncmaa
