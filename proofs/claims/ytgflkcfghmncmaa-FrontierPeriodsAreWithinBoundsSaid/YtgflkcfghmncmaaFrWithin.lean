/-
  FrontierPeriodsAreWithinBounds: for every row of visits and every two numbers, the law's own function answers true, and what came in reads as it did.
-/
import Derived.Test.YtgflkcfghmncmaaFrAwake
namespace Go.Proofs.Ytgflkcfghmncmaa
open Go.Lw Go.RowKit Go.ChangeShapes Go.WideShapes Go.ChangeAt
set_option maxRecDepth 100000
set_option maxHeartbeats 400000

theorem clone_ok (l : List Vis) (hm : l.length ≤ 1000) : FnMem Try.prog 13 [.d (visSl l)] [] (.os 5 l.length) [(5, .own 30 2 true (l.map encVis))] := by
  refine fnMem Try.func13 rfl (by kernel_rfl) Try.ntmps13 _ rfl (by simp) fun C hc => ?_
  repeat' (first | (first | refine ewp_seq ?_ | refine run_region hc (by simp; exact Ends.go) (by first | exact True.intro | omega | (simp; done) | (simp; omega) | (simp at *; omega)) ?_ | refine run_draw hc (by kernel_rfl) (by kernel_rfl) (by simp; exact Ends.go) (by first | exact True.intro | omega | (simp; done) | (simp; omega) | (simp at *; omega)) ?_ | refine ewp_skip ?_ | refine ewp_block ?_ | refine ewp_exit ?_ | refine ewp_label ?_ | refine thenQ_normal ?_ | refine thenQ_ret ?_ | refine thenQ_exit ?_ | refine blockQ_normal ?_ | refine blockQ_ret ?_ | refine blockQ_here ?_ | refine blockQ_there (by decide) ?_ | refine ewp_ret ?_ | refine opsW_nil ?_ | refine quietW_nil ?_ | (refine run_cond (by simp; exact Gives.mk) (fun hb => ?_) (fun hb => ?_) <;> (try simp at hb)) | fail) | (refine run_isNil hc (by simp; exact Gives.mk) (by simp; exact Gives.mk) (by simp; exact Gives.mk) (by simp) (fun bn hbn => ?_)) | (first | refine run_callW hc (by simp; exact Gives.mk) (by simp; exact Gives.mk) (by simp; exact Gives.mk) (by simp; exact Gives.mk) (by simp; exact Gives.mk) (fun _ => by first | exact trivial) (by simp) (by simp) ?_ | refine run_callQ hc (by simp; exact Gives.mk) (by simp; exact Gives.mk) (by simp; exact Gives.mk) (by simp; exact Gives.mk) (by simp; exact Gives.mk) (fun _ => by first | exact trivial) (by simp) (by simp) ?_ | refine run_ops hc (by simp; first | exact Ends.go | exact Ends.halt) (by decide) (by first | exact True.intro | omega | (simp; done) | (simp; omega) | (simp at *; omega)) ?_ | refine run_quiet hc (by simp; first | exact Ends.go | exact Ends.halt) (by decide) (by first | exact True.intro | omega | (simp; done) | (simp; omega) | (simp at *; omega)) ?_ | refine run_regionW hc (by simp; exact Ends.halt) (by first | exact True.intro | omega | (simp; done) | (simp; omega) | (simp at *; omega)) ?_ | refine run_drawW hc (by kernel_rfl) (by kernel_rfl) (by simp; exact Ends.halt) (by first | exact True.intro | omega | (simp; done) | (simp; omega) | (simp at *; omega)) ?_ | fail))
  · have h0 := hbn hb
    obtain rfl : l = [] := by simpa using h0
    exact run_leaveM [5] hc (le_births [(2, none, 5, 30, 2)] (by simp; exact Gives.mk) (le_end rfl)) (by simp; exact Gives.mk) (by simp; exact Gives.mk) (by simp) (by simp)
  · refine run_leaveM [5] hc (le_end rfl) (by simp; exact Gives.mk) (by simp; exact Gives.mk) (by simp) ?_
    simpa [encVis] using map_range_getD l ((0 : Int), false) encVis

/-! The plain law. -/
theorem getD_app_lt (l : List Vis) (x : Vis) (i : Nat) (hi : i < l.length) : (l ++ [x])[i]?.getD ((0 : Int), false) = l[i]?.getD ((0 : Int), false) := by
  rw [List.getElem?_append_left hi]
theorem getD_app_eq (l : List Vis) (x : Vis) : (l ++ [x])[l.length]?.getD ((0 : Int), false) = x := by simp
theorem visFrom_app (l : List Vis) (x : Vis) (j : Nat) (hl : 1 ≤ l.length) (h : visFrom l j = 0) (h0 : 0 ≤ x.1) (h1 : x.1 ≤ 253402300799) (h2 : (l[l.length - 1]?.getD ((0 : Int), false)).1 < x.1) (hj : j ≤ l.length) : visFrom (l ++ [x]) j = 0 := by
  rw [visFrom]
  rcases Nat.eq_or_lt_of_le hj with rfl | hlt
  · have e := getD_app_eq l x
    have e2 := getD_app_lt l x (l.length - 1) (by omega)
    rw [if_pos (by simp), e, e2, if_neg (by omega), if_neg (by omega), if_neg (by omega), visFrom, if_neg (by simp)]
  · rw [visFrom, if_pos hlt] at h
    rw [if_pos (by simp; omega), getD_app_lt l x j hlt, getD_app_lt l x (j - 1) (by omega)]
    split at h
    · omega
    split at h
    · omega
    split at h
    · omega
    rw [if_neg (by assumption), if_neg (by assumption), if_neg (by assumption)]
    exact visFrom_app l x (j + 1) hl h h0 h1 h2 (by omega)
termination_by l.length - j
theorem chFrom_app (l : List Vis) (x : Vis) (hx : x.2 = false) (j : Nat) (hj : j ≤ l.length) : chFrom (l ++ [x]) j = chFrom l j := by
  rw [chFrom]
  conv => rhs; rw [chFrom]
  rcases Nat.eq_or_lt_of_le hj with rfl | hlt
  · have e := getD_app_eq l x
    rw [if_pos (by simp), e, hx, if_neg (by simp), chFrom, if_neg (by simp), if_neg (by simp)]
    rfl
  · rw [if_pos (by simp; omega), if_pos hlt, getD_app_lt l x j hlt, chFrom_app l x hx (j + 1) (by omega)]
termination_by l.length - j
theorem tdiv_mono (x y z : Int) (hx : 0 ≤ x) (hxy : x ≤ y) (hz : 1 ≤ z) : x.tdiv z ≤ y.tdiv z := by
  rw [Int.tdiv_eq_ediv_of_nonneg hx, Int.tdiv_eq_ediv_of_nonneg (by omega)]
  exact Int.ediv_le_ediv (by omega) hxy
theorem later_ask (l : List Vis) (low high d : Int) (h : askPeriod l low high = 0) (hl : 2 ≤ l.length) (h5 : l.length < 500) (hd : (l[l.length - 1]?.getD ((0 : Int), false)).1 < d) (hm : d ≤ 253402300799) : askPeriod (l ++ [(d, false)]) low high = 0 := by
  have hr := last_range h (by omega)
  obtain ⟨h0, h1, h2, h3⟩ := ask_facts h
  have hf : visFrom l 0 = 0 := by unfold checkVisits at h0; split at h0 <;> omega
  have hv := visFrom_app l (d, false) 0 (by omega) hf (by simp; omega) hm hd (by omega)
  have hc : checkVisits (l ++ [(d, false)]) = 0 := by
    unfold checkVisits
    rw [if_neg (by simp; omega), hv]
  unfold askPeriod
  rw [hc, if_neg (by simp), if_neg (by omega)]
theorem later_period (l : List Vis) (low high d : Int) (h : askPeriod l low high = 0) (hl : 2 ≤ l.length) (hd : (l[l.length - 1]?.getD ((0 : Int), false)).1 < d) : period l low high ≤ period (l ++ [(d, false)]) low high := by
  obtain ⟨h0, h1, h2, h3⟩ := ask_facts h
  obtain ⟨_, f1, f2, f3, f4, f5, f6, f7, f8, f9, f10, f11, f12⟩ := period_facts l h0 hl
  have e1 := getD_app_lt l (d, false) 0 (by omega)
  have e2 := getD_app_eq l (d, false)
  have e3 : changes (l ++ [(d, false)]) = changes l := chFrom_app l (d, false) rfl 0 (by omega)
  have e4 : (l ++ [((d : Int), false)]).length - 1 = l.length := by simp
  have hmono := tdiv_mono (2 * ((l[l.length - 1]?.getD ((0 : Int), false)).1 - (l[0]?.getD ((0 : Int), false)).1)) (2 * (d - (l[0]?.getD ((0 : Int), false)).1)) (2 * changes l + 1) (by omega) (by omega) (by omega)
  unfold period
  have g1 : ¬ l.length < 2 := by omega
  have g2 : ¬ (l ++ [(d, false)]).length < 2 := by simp; omega
  simp only [if_neg g1, if_neg g2, e4, e1, e2, e3, Bool.false_eq_true, if_false]
  generalize (2 * (d - (l[0]?.getD ((0 : Int), false)).1)).tdiv (2 * changes l + 1) = A at *
  generalize (2 * ((l[l.length - 1]?.getD ((0 : Int), false)).1 - (l[0]?.getD ((0 : Int), false)).1)).tdiv (2 * changes l + 1) = B at *
  generalize ((l[l.length - 1]?.getD ((0 : Int), false)).1 - (l[l.length - 1 - 1]?.getD ((0 : Int), false)).1 + 1).tdiv 2 = E at *
  repeat' split
  all_goals omega
theorem law4_ok (l : List Vis) (low high : Int) (hm : l.length ≤ 9223372036854775807) : FnOk Try.prog 4 [visSl l, int low, int high] (tru true) := by
  refine fnOk Try.func4 rfl (by kernel_rfl) Try.ntmps4 _ rfl (by simp) fun C hc => ?_
  repeat' (first | (first | refine ewp_seq ?_ | refine run_region hc (by simp; exact Ends.go) (by first | exact True.intro | omega | (simp; done) | (simp; omega) | (simp at *; omega)) ?_ | refine run_draw hc (by kernel_rfl) (by kernel_rfl) (by simp; exact Ends.go) (by first | exact True.intro | omega | (simp; done) | (simp; omega) | (simp at *; omega)) ?_ | refine ewp_skip ?_ | refine ewp_block ?_ | refine ewp_exit ?_ | refine ewp_label ?_ | refine thenQ_normal ?_ | refine thenQ_ret ?_ | refine thenQ_exit ?_ | refine blockQ_normal ?_ | refine blockQ_ret ?_ | refine blockQ_here ?_ | refine blockQ_there (by decide) ?_ | refine ewp_ret ?_ | refine opsW_nil ?_ | refine quietW_nil ?_ | (refine run_cond (by simp; exact Gives.mk) (fun hb => ?_) (fun hb => ?_) <;> (try simp at hb)) | fail) | (first | refine run_callW hc (by simp; exact Gives.mk) (by simp; exact Gives.mk) (by simp; exact Gives.mk) (by simp; exact Gives.mk) (by simp; exact Gives.mk) (fun _ => by first | exact Period_ok _ _ _ hm | exact Due_ok _ _ _ hm | exact awake_ok) (by simp) (by simp) ?_ | refine run_callQ hc (by simp; exact Gives.mk) (by simp; exact Gives.mk) (by simp; exact Gives.mk) (by simp; exact Gives.mk) (by simp; exact Gives.mk) (fun _ => by first | exact Period_ok _ _ _ hm | exact Due_ok _ _ _ hm | exact awake_ok) (by simp) (by simp) ?_ | refine run_ops hc (by simp; first | exact Ends.go | exact Ends.halt) (by decide) (by first | exact True.intro | omega | (simp; done) | (simp; omega) | (simp at *; omega)) ?_ | refine run_quiet hc (by simp; first | exact Ends.go | exact Ends.halt) (by decide) (by first | exact True.intro | omega | (simp; done) | (simp; omega) | (simp at *; omega)) ?_ | refine run_regionW hc (by simp; exact Ends.halt) (by first | exact True.intro | omega | (simp; done) | (simp; omega) | (simp at *; omega)) ?_ | refine run_drawW hc (by kernel_rfl) (by kernel_rfl) (by simp; exact Ends.halt) (by first | exact True.intro | omega | (simp; done) | (simp; omega) | (simp at *; omega)) ?_ | fail) | fail)
  · (refine run_leave hc (by simp; exact Gives.mk) ?_)
    simp_all
  · exfalso
    rename_i ha
    have := period_range ha
    simp only [ha, if_true] at hb
    omega
  · (refine run_leave hc (by simp; exact Gives.mk) ?_)
    simp_all
  · rename_i ha _
    simp only [ha, if_true] at hb
    obtain ⟨⟨⟨⟨_, h2⟩, h5⟩, h6⟩, h7⟩ := hb
    have hp := period_range ha
    obtain ⟨_, g1, g2, g3⟩ := ask_facts ha
    have hr := last_range ha (by omega)
    have hdue : dueF l low high ≤ 253402300799 := by
      unfold dueF
      repeat' split
      all_goals omega
    have hask := later_ask l low high (dueF l low high) ha (by omega) (by omega) h6 hdue
    have hper := later_period l low high (dueF l low high) ha (by omega) h6
    have hP : FnOk Try.prog 6 [.sl (l.length + 1) fun i => (l.map encVis ++ [[D.lit (.int .i64 (if askPeriod l low high = 0 then dueF l low high else 0)), .lit (.bool false)]])[i]?.getD [], int low, int high] (periodD (l ++ [(dueF l low high, false)]) low high) := by
      simp only [ha, if_true]
      have h := Period_ok (l ++ [(dueF l low high, false)]) low high (by simp; omega)
      have hs := Sim.rows (e := encVis) (dflt := (0, false)) (es := l.map encVis ++ [[D.lit (.int .i64 (dueF l low high)), .lit (.bool false)]]) (l ++ [(dueF l low high, false)]) (by simp [encVis])
      simp only [List.length_append, List.length_singleton, List.getD_eq_getElem?_getD] at hs
      refine FnOk.sim (.cons hs (.cons (.refl _) (.cons (.refl _) .nil))) ?_
      simpa only [visSl, List.length_append, List.length_singleton, List.getD_eq_getElem?_getD] using h
    (refine run_callM ([(5, 75)]) (clone_ok l (by omega)) hc (by simp; exact Gives.mk) (by simp; exact Gives.mk) (by simp; exact Gives.mk) (by simp; exact Gives.mk) (by simp; exact Gives.mk) rfl (by simp; exact Gives.mk) (by simp; exact Gives.mk) rfl (by simp) (by simp) (by simp; exact Gives.mk) (by simp; exact Gives.mk) ?_)
    repeat' (first | (first | refine ewp_seq ?_ | refine run_region hc (by simp; exact Ends.go) (by first | exact True.intro | omega | (simp; done) | (simp; omega) | (simp at *; omega)) ?_ | refine run_draw hc (by kernel_rfl) (by kernel_rfl) (by simp; exact Ends.go) (by first | exact True.intro | omega | (simp; done) | (simp; omega) | (simp at *; omega)) ?_ | refine ewp_skip ?_ | refine ewp_block ?_ | refine ewp_exit ?_ | refine ewp_label ?_ | refine thenQ_normal ?_ | refine thenQ_ret ?_ | refine thenQ_exit ?_ | refine blockQ_normal ?_ | refine blockQ_ret ?_ | refine blockQ_here ?_ | refine blockQ_there (by decide) ?_ | refine ewp_ret ?_ | refine opsW_nil ?_ | refine quietW_nil ?_ | (refine run_cond (by simp; exact Gives.mk) (fun hb => ?_) (fun hb => ?_) <;> (try simp at hb)) | fail) | (first | refine run_callW hc (by simp; exact Gives.mk) (by simp; exact Gives.mk) (by simp; exact Gives.mk) (by simp; exact Gives.mk) (by simp; exact Gives.mk) (fun _ => by first | exact hP) (by simp) (by simp) ?_ | refine run_callQ hc (by simp; exact Gives.mk) (by simp; exact Gives.mk) (by simp; exact Gives.mk) (by simp; exact Gives.mk) (by simp; exact Gives.mk) (fun _ => by first | exact hP) (by simp) (by simp) ?_ | refine run_ops hc (by simp; first | exact Ends.go | exact Ends.halt) (by decide) (by first | exact True.intro | omega | (simp; done) | (simp; omega) | (simp at *; omega)) ?_ | refine run_quiet hc (by simp; first | exact Ends.go | exact Ends.halt) (by decide) (by first | exact True.intro | omega | (simp; done) | (simp; omega) | (simp at *; omega)) ?_ | refine run_regionW hc (by simp; exact Ends.halt) (by first | exact True.intro | omega | (simp; done) | (simp; omega) | (simp at *; omega)) ?_ | refine run_drawW hc (by kernel_rfl) (by kernel_rfl) (by simp; exact Ends.halt) (by first | exact True.intro | omega | (simp; done) | (simp; omega) | (simp at *; omega)) ?_ | fail) | fail)
    (refine run_leave hc (by simp; exact Gives.mk) ?_)
    simp [ha, hask, hper]

theorem liftedFrontierPeriodsAreWithinBounds (os : Os) (started : os.Started) (H : Type) (enc : TypeId × Value → H) :
    ReturnsInHanded {} Try.checked os 4 .any (Rows.frontierPeriodsAreWithinBoundsSpec.pre6 enc Try.prog Try.f4 Rows.frontierPeriodsAreWithinBoundsRow.domain false) (Rows.frontierPeriodsAreWithinBoundsSpec.post enc Try.prog Try.f4 false true false false) := by
  refine returnsInHanded_of_change (C := Try.checked) own started (by kernel_rfl) Try.func4
    (ChangeSpec.witness6 (enc := enc) (C := Try.checked) false ⟨#[], #[.slice none 0 0, .int .i64 0, .int .i64 0], []⟩ 8 (by kernel_rfl) (by kernel_rfl) (by kernel_rfl) (by kernel_rfl)) ?_
  intro W base args ds gs before hval0 hW hcnd _
  have hval : ∀ (j : Nat) t v, Try.f4.params[j]? = some t → args[j]? = some v → Value.okWide Try.prog W .any base t v := hval0
  have hW' := hW
  obtain ⟨p, q, hA0, _, _, _, _⟩ := hW
  have hA : DataW.TrodAll enc Try.prog W 0 (fun _ => true) true Try.f4.params.toList args.toList ds p := hA0
  rw [Try.params4] at hA hval
  obtain ⟨v0, _, d0, _, p0, _, hargs, rfl, _, h0, r0⟩ := trodAll_cons hA
  obtain ⟨v1, _, d1, _, p1, _, rfl, rfl, _, h1, r1⟩ := trodAll_cons r0
  obtain ⟨v2, _, d2, _, p2, _, rfl, rfl, _, h2, r2⟩ := trodAll_cons r1
  obtain ⟨rfl, rfl, _⟩ := trodAll_nil r2
  obtain rfl : args = #[v0, v1, v2] := by cases args; simp_all
  obtain ⟨a0, c0, e0⟩ := opn_visits H enc W base v0 d0 p0 (hval 0 _ v0 rfl rfl) h0
  obtain ⟨a1, c1, e1⟩ := opnA_i H enc W base v1 d1 p1 (hval 1 _ v1 rfl rfl) h1
  obtain ⟨a2, c2, e2⟩ := opnA_i H enc W base v2 d2 p2 (hval 2 _ v2 rfl rfl) h2
  exact law_contract laidOut (of_decide_eq_true (by kernel_rfl)) rfl Try.underlying4 rfl (fun ds hd => by
    match ds, hd with
    | [_, _, _], _ => rfl) hW' (ArgsL.rd (.cons e0 (.cons e1 (.cons e2 .nil)))) (law4_ok a0 a1 a2 c0.1)
theorem overFrontierPeriodsAreWithinBounds : Rows.frontierPeriodsAreWithinBoundsRow.holds Try.pinned (OpenSpec.ofChange Rows.frontierPeriodsAreWithinBoundsSpec) :=
  OpenClaim.holds_of_wide 4 Try.f4 rfl rfl rfl rfl rfl rfl rfl ⟨rfl, rfl, rfl, rfl, rfl⟩ rfl rfl rfl rfl rfl (by kernel_rfl) Try.func4 (by kernel_rfl)
    (of_decide_eq_true (by kernel_rfl)) (by unfold Func.isWrapper; first | (rw [if_pos (by decide +kernel)]; kernel_rfl) | (rw [if_neg (by decide +kernel)]; exact ⟨rfl, rfl⟩))
    (fun os started H enc _ => liftedFrontierPeriodsAreWithinBounds os started H enc)

/-- The given statement. -/
theorem frontierPeriodsAreWithinBounds_proved : Rows.FrontierPeriodsAreWithinBoundsSaid := overFrontierPeriodsAreWithinBounds
#print axioms frontierPeriodsAreWithinBounds_proved
end Go.Proofs.Ytgflkcfghmncmaa
