/-
  FrontierPeriodsMatchSpec: for every row of visits and every two numbers, CheckVisits, Period and Due answer as the document's own functions do, and what came in reads as it did.
-/
import Derived.Test.YtgflkcfghmncmaaFrPeriod
import Derived.Test.YtgflkcfghmncmaaLwTop
namespace Go.Proofs.Ytgflkcfghmncmaa
open Go.Lw Go.RowKit Go.ChangeShapes Go.WideShapes Go.ChangeAt
set_option maxRecDepth 100000
set_option maxHeartbeats 400000

theorem awake_ok : FnOk Try.prog 12 [] (tru true) := by
  refine fnOk Try.func12 rfl (by kernel_rfl) Try.ntmps12 _ rfl (by simp) fun C hc => ?_
  have hP : FnOk Try.prog 6 [.sl 3 (fun i => [[D.lit (.int .i64 0), .lit (.bool false)], [.lit (.int .i64 100), .lit (.bool true)], [.lit (.int .i64 400), .lit (.bool false)]].getD i []), int 1, int 1000] (.tup [int 266, int 0]) := by
    refine FnOk.sim (.cons (Sim.rows (e := encVis) (dflt := (0, false)) [(0, false), (100, true), (400, false)] rfl) (.cons (.refl _) (.cons (.refl _) .nil))) ?_
    have h := Period_ok [(0, false), (100, true), (400, false)] 1 1000 (by simp)
    have e1 : askPeriod [(0, false), (100, true), (400, false)] 1 1000 = 0 := by
      simp [askPeriod, checkVisits, visFrom]
    have e2 : period [(0, false), (100, true), (400, false)] 1 1000 = 266 := by
      simp [period, changes, chFrom]
    rw [show periodD [(0, false), (100, true), (400, false)] 1 1000 = .tup [int 266, int 0] by simp [periodD, e1, e2]] at h
    exact h
  repeat' (first | (first | refine ewp_seq ?_ | refine run_region hc (by simp; exact Ends.go) (by first | exact True.intro | omega | (simp; done) | (simp; omega) | (simp at *; omega)) ?_ | refine run_draw hc (by kernel_rfl) (by kernel_rfl) (by simp; exact Ends.go) (by first | exact True.intro | omega | (simp; done) | (simp; omega) | (simp at *; omega)) ?_ | refine ewp_skip ?_ | refine ewp_block ?_ | refine ewp_exit ?_ | refine ewp_label ?_ | refine thenQ_normal ?_ | refine thenQ_ret ?_ | refine thenQ_exit ?_ | refine blockQ_normal ?_ | refine blockQ_ret ?_ | refine blockQ_here ?_ | refine blockQ_there (by decide) ?_ | refine ewp_ret ?_ | refine opsW_nil ?_ | refine quietW_nil ?_ | (refine run_cond (by simp; exact Gives.mk) (fun hb => ?_) (fun hb => ?_) <;> (try simp at hb))) | (first | refine run_callW hc (by simp; exact Gives.mk) (by simp; exact Gives.mk) (by simp; exact Gives.mk) (fun _ => by first | exact hP) (by simp) (by simp) ?_ | refine run_callQ hc (by simp; exact Gives.mk) (by simp; exact Gives.mk) (by simp; exact Gives.mk) (fun _ => by first | exact hP) (by simp) (by simp) ?_ | refine run_ops hc (by simp; first | exact Ends.go | exact Ends.halt) (by first | exact True.intro | omega | (simp; done) | (simp; omega) | (simp at *; omega)) ?_ | refine run_quiet hc (by simp; first | exact Ends.go | exact Ends.halt) (by first | exact True.intro | omega | (simp; done) | (simp; omega) | (simp at *; omega)) ?_ | refine run_regionW hc (by simp; exact Ends.halt) (by first | exact True.intro | omega | (simp; done) | (simp; omega) | (simp at *; omega)) ?_ | refine run_drawW hc (by kernel_rfl) (by kernel_rfl) (by simp; exact Ends.halt) (by first | exact True.intro | omega | (simp; done) | (simp; omega) | (simp at *; omega)) ?_))
  all_goals (refine run_leave hc (by simp; exact Gives.mk) ?_)
  all_goals simp
theorem law3_ok (l : List Vis) (low high : Int) (hm : l.length ≤ 9223372036854775807) : FnOk Try.prog 3 [visSl l, int low, int high] (tru true) := by
  refine fnOk Try.func3 rfl (by kernel_rfl) Try.ntmps3 _ rfl (by simp) fun C hc => ?_
  repeat' (first | (first | refine ewp_seq ?_ | refine run_region hc (by simp; exact Ends.go) (by first | exact True.intro | omega | (simp; done) | (simp; omega) | (simp at *; omega)) ?_ | refine run_draw hc (by kernel_rfl) (by kernel_rfl) (by simp; exact Ends.go) (by first | exact True.intro | omega | (simp; done) | (simp; omega) | (simp at *; omega)) ?_ | refine ewp_skip ?_ | refine ewp_block ?_ | refine ewp_exit ?_ | refine ewp_label ?_ | refine thenQ_normal ?_ | refine thenQ_ret ?_ | refine thenQ_exit ?_ | refine blockQ_normal ?_ | refine blockQ_ret ?_ | refine blockQ_here ?_ | refine blockQ_there (by decide) ?_ | refine ewp_ret ?_ | refine opsW_nil ?_ | refine quietW_nil ?_ | (refine run_cond (by simp; exact Gives.mk) (fun hb => ?_) (fun hb => ?_) <;> (try simp at hb))) | (first | refine run_callW hc (by simp; exact Gives.mk) (by simp; exact Gives.mk) (by simp; exact Gives.mk) (fun _ => by first | exact Period_ok _ _ _ hm | exact PeriodR_ok _ _ _ hm | exact Due_ok _ _ _ hm | exact DueR_ok _ _ _ hm | exact checkVisits_ok _ hm | exact checkVisitsR_ok _ hm | exact awake_ok) (by simp) (by simp) ?_ | refine run_callQ hc (by simp; exact Gives.mk) (by simp; exact Gives.mk) (by simp; exact Gives.mk) (fun _ => by first | exact Period_ok _ _ _ hm | exact PeriodR_ok _ _ _ hm | exact Due_ok _ _ _ hm | exact DueR_ok _ _ _ hm | exact checkVisits_ok _ hm | exact checkVisitsR_ok _ hm | exact awake_ok) (by simp) (by simp) ?_ | refine run_ops hc (by simp; first | exact Ends.go | exact Ends.halt) (by first | exact True.intro | omega | (simp; done) | (simp; omega) | (simp at *; omega)) ?_ | refine run_quiet hc (by simp; first | exact Ends.go | exact Ends.halt) (by first | exact True.intro | omega | (simp; done) | (simp; omega) | (simp at *; omega)) ?_ | refine run_regionW hc (by simp; exact Ends.halt) (by first | exact True.intro | omega | (simp; done) | (simp; omega) | (simp at *; omega)) ?_ | refine run_drawW hc (by kernel_rfl) (by kernel_rfl) (by simp; exact Ends.halt) (by first | exact True.intro | omega | (simp; done) | (simp; omega) | (simp at *; omega)) ?_))
  all_goals (refine run_leave hc (by simp; exact Gives.mk) ?_)
  all_goals simp_all

theorem opn_vis : Opn Try.prog 30 encVis (fun v => inR .i64 v.1) :=
  (opn_flds (total := 2) Try.underlying30 rfl (by kernel_rfl) (flds_cons (n := 1) (by kernel_rfl) (by simp) (opn_int Try.underlying3) (flds_cons (n := 1) (by kernel_rfl) (by simp) (opn_bool Try.underlying4) flds_nil))).map (fun x => (x.1, x.2.1)) (fun _ _ => rfl) (fun _ h => h.1)
theorem opn_visits : OpnA Try.prog 22 visSl (fun l => l.length ≤ maxLen ∧ ∀ x ∈ l, inR .i64 x.1) :=
  opnA_cell (opn_slice ((0, false) : Vis) Try.underlying22 (n := 2) (by kernel_rfl) (by omega) opn_vis) (fun _ => rfl) (by kernel_rfl)
theorem opnA_i : OpnA Try.prog 3 int (inR .i64) := opnA_cell (opn_int Try.underlying3) (fun _ => rfl) (by kernel_rfl)
theorem own : ownKnob Try.prog.godebug = none := by kernel_rfl
theorem laidOut : laidOutB Try.prog = true := by kernel_rfl

theorem lifted3 (os : Os) (started : os.Started) (H : Type) (enc : TypeId × Value → H) :
    ReturnsInHanded {} Try.checked os 3 .any (Rows.frontierPeriodsMatchSpecSpec.pre6 enc Try.prog Try.f3 Rows.frontierPeriodsMatchSpecRow.domain false) (Rows.frontierPeriodsMatchSpecSpec.post enc Try.prog Try.f3 false true false false) := by
  refine returnsInHanded_of_change (C := Try.checked) own started (by kernel_rfl) Try.func3
    (ChangeSpec.witness6 (enc := enc) (C := Try.checked) false ⟨#[], #[.slice none 0 0, .int .i64 0, .int .i64 0], []⟩ 8 (by kernel_rfl) (by kernel_rfl) (by kernel_rfl) (by kernel_rfl)) ?_
  intro W base args ds gs before hval0 hW hcnd _
  have hval : ∀ (j : Nat) t v, Try.f3.params[j]? = some t → args[j]? = some v → Value.okWide Try.prog W .any base t v := hval0
  have hW' := hW
  obtain ⟨p, q, hA0, _, _, _, _⟩ := hW
  have hA : DataW.TrodAll enc Try.prog W 0 (fun _ => true) true Try.f3.params.toList args.toList ds p := hA0
  rw [Try.params3] at hA hval
  obtain ⟨v0, _, d0, _, p0, _, hargs, rfl, _, h0, r0⟩ := trodAll_cons hA
  obtain ⟨v1, _, d1, _, p1, _, rfl, rfl, _, h1, r1⟩ := trodAll_cons r0
  obtain ⟨v2, _, d2, _, p2, _, rfl, rfl, _, h2, r2⟩ := trodAll_cons r1
  obtain ⟨rfl, rfl, _⟩ := trodAll_nil r2
  obtain rfl : args = #[v0, v1, v2] := by cases args; simp_all
  obtain ⟨a0, c0, e0⟩ := opn_visits H enc W base v0 d0 p0 (hval 0 _ v0 rfl rfl) h0
  obtain ⟨a1, c1, e1⟩ := opnA_i H enc W base v1 d1 p1 (hval 1 _ v1 rfl rfl) h1
  obtain ⟨a2, c2, e2⟩ := opnA_i H enc W base v2 d2 p2 (hval 2 _ v2 rfl rfl) h2
  exact law_contract laidOut (of_decide_eq_true (by kernel_rfl)) rfl Try.underlying4 rfl (fun ds hd => by
    match ds, hd with
    | [_, _, _], _ => rfl) hW' (ArgsL.rd (.cons e0 (.cons e1 (.cons e2 .nil)))) (law3_ok a0 a1 a2 c0.1)

theorem over3 : Rows.frontierPeriodsMatchSpecRow.holds Try.pinned (OpenSpec.ofChange Rows.frontierPeriodsMatchSpecSpec) :=
  OpenClaim.holds_of_wide 3 Try.f3 rfl rfl rfl rfl rfl rfl rfl ⟨rfl, rfl, rfl, rfl, rfl⟩ rfl rfl rfl rfl rfl (by kernel_rfl) Try.func3 (by kernel_rfl)
    (of_decide_eq_true (by kernel_rfl)) (by unfold Func.isWrapper; first | (rw [if_pos (by decide +kernel)]; kernel_rfl) | (rw [if_neg (by decide +kernel)]; exact ⟨rfl, rfl⟩))
    (fun os started H enc _ => lifted3 os started H enc)

/-- The given statement. -/
theorem frontierPeriodsMatchSpec_proved : Rows.FrontierPeriodsMatchSpecSaid := over3
#print axioms frontierPeriodsMatchSpec_proved
end Go.Proofs.Ytgflkcfghmncmaa
