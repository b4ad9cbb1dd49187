/-
  PageSafeIsMeant: what is safe means what it was made of, and has no byte that could end it.
-/
import Derived.Test.YtgebkjngnfdeiaaPgSafe
import Derived.Test.YtgebkjngnfdeiaaLibAny
import Derived.Test.YtgebkjngnfdeiaaLwTop
set_option linter.unusedSimpArgs false
set_option linter.unusedVariables false
namespace Go.Proofs.Ytgebkjngnfdeiaa
open Go.Lw Go.RowKit Go.ChangeShapes Go.WideShapes Go.ChangeAt
set_option maxRecDepth 100000
set_option maxHeartbeats 400000

theorem awake_ok : FnOk Try.prog 9 [] (tru true) := by
  refine fnOk Try.func9 rfl (by kernel_rfl) Try.ntmps9 _ rfl (by simp) fun C hc => ?_
  have hS := safeF_ok [60] (by simp)
  rw [show safe [60] = [38, 108, 116, 59] by simp [safe, ent]] at hS
  simp only [List.length_cons, List.length_nil, Nat.reduceAdd, Nat.reduceLeDiff, and_self, if_true] at hS
  repeat' (first | (first | refine ewp_seq ?_ | refine run_region hc (by simp; exact Ends.go) (by first | exact True.intro | omega | (simp; done) | (simp; omega) | (simp at *; omega)) ?_ | refine run_draw hc (by kernel_rfl) (by kernel_rfl) (by simp; exact Ends.go) (by first | exact True.intro | omega | (simp; done) | (simp; omega) | (simp at *; omega)) ?_ | refine ewp_scope ?_ | refine scopeQ_normal ?_ | refine scopeQ_ret ?_ | refine scopeQ_exit ?_ | refine ewp_skip ?_ | refine ewp_block ?_ | refine ewp_exit ?_ | refine ewp_label ?_ | refine thenQ_normal ?_ | refine thenQ_ret ?_ | refine thenQ_exit ?_ | refine blockQ_normal ?_ | refine blockQ_ret ?_ | refine blockQ_here ?_ | refine blockQ_there (by decide) ?_ | refine ewp_ret ?_ | refine opsW_nil ?_ | refine quietW_nil ?_ | (refine run_cond (by simp; exact Gives.mk) (fun hb => ?_) (fun hb => ?_) <;> (try simp at hb)) | fail) | (first | refine run_callW hc (by simp; exact Gives.mk) (by simp; exact Gives.mk) (by simp; exact Gives.mk) (by simp; exact Gives.mk) (by simp; exact Gives.mk) (fun _ => by first | exact hS) (by simp) (by simp) ?_ | refine run_callQ hc (by simp; exact Gives.mk) (by simp; exact Gives.mk) (by simp; exact Gives.mk) (by simp; exact Gives.mk) (by simp; exact Gives.mk) (fun _ => by first | exact hS) (by simp) (by simp) ?_ | refine run_ops hc (by simp; first | exact Ends.go | exact Ends.halt) (by decide) (by first | exact True.intro | omega | (simp; done) | (simp; omega) | (simp at *; omega)) ?_ | refine run_quiet hc (by simp; first | exact Ends.go | exact Ends.halt) (by decide) (by first | exact True.intro | omega | (simp; done) | (simp; omega) | (simp at *; omega)) ?_ | refine run_regionW hc (by simp; exact Ends.halt) (by first | exact True.intro | omega | (simp; done) | (simp; omega) | (simp at *; omega)) ?_ | refine run_drawW hc (by kernel_rfl) (by kernel_rfl) (by simp; exact Ends.halt) (by first | exact True.intro | omega | (simp; done) | (simp; omega) | (simp at *; omega)) ?_ | fail))
  all_goals (refine run_leave hc (by simp; exact Gives.mk) ?_)
  all_goals simp
theorem opnA_s : OpnA Try.prog 9 str (fun l : Bs => l.length ≤ maxLen) :=
  opnA_cell ((opn_string Try.underlying9).map (e' := fun l : Bs => [str l]) (p' := fun l : Bs => l.length ≤ maxLen) (fun b => b.data.toList) (fun _ _ => rfl) (fun b h => by simpa using h)) (fun _ => rfl) (by kernel_rfl)
theorem own : ownKnob Try.prog.godebug = none := by kernel_rfl
theorem laidOut : laidOutB Try.prog = true := by kernel_rfl

theorem sg_ent (c : UInt8) (r : Bs) : (sg (ent c ++ r) 5 = none ∧ ent c = [c]) ∨ (sg (ent c ++ r) 5 = some (ent c, c) ∧ 2 ≤ (ent c).length) := by
  by_cases h1 : c = 38
  · subst h1; right; simp [sg, E5, ent]
  by_cases h2 : c = 60
  · subst h2; right; simp [sg, E5, ent]
  by_cases h3 : c = 62
  · subst h3; right; simp [sg, E5, ent]
  by_cases h4 : c = 34
  · subst h4; right; simp [sg, E5, ent]
  by_cases h5 : c = 39
  · subst h5; right; simp [sg, E5, ent]
  left
  have e : ent c = [c] := by simp [ent, h1, h2, h3, h4, h5]
  refine ⟨?_, e⟩
  rw [e]
  have h1' : ¬ (38 : UInt8) = c := fun h => h1 h.symm
  simp [sg, E5, h1']
theorem meant_safe (l : Bs) : meant (safe l) = l := by
  induction l with
  | nil => simp [safe, meant]
  | cons c l ih =>
    have e : safe (c :: l) = ent c ++ safe l := by simp [safe]
    rw [e]
    rcases sg_ent c (safe l) with ⟨h1, h2⟩ | ⟨h1, h2⟩
    · rw [h2] at h1 ⊢
      rw [List.singleton_append] at h1 ⊢
      rw [meant, h1]
      simp [ih]
    · generalize hE : ent c = E at h1 h2 ⊢
      match E, h2 with
      | a :: E, h2 =>
        rw [List.cons_append] at h1 ⊢
        rw [meant, h1]
        simp [ih]
theorem safe_none (l : Bs) : ∀ b ∈ safe l, b ∉ [60, 62, 34, 39] := by
  intro b hb
  simp only [safe, List.mem_flatMap] at hb
  obtain ⟨c, _, hc⟩ := hb
  by_cases h1 : c = 38
  · subst h1; have : ∀ x ∈ ent 38, x ∉ [60, 62, 34, 39] := by decide
    exact this b hc
  by_cases h2 : c = 60
  · subst h2; have : ∀ x ∈ ent 60, x ∉ [60, 62, 34, 39] := by decide
    exact this b hc
  by_cases h3 : c = 62
  · subst h3; have : ∀ x ∈ ent 62, x ∉ [60, 62, 34, 39] := by decide
    exact this b hc
  by_cases h4 : c = 34
  · subst h4; have : ∀ x ∈ ent 34, x ∉ [60, 62, 34, 39] := by decide
    exact this b hc
  by_cases h5 : c = 39
  · subst h5; have : ∀ x ∈ ent 39, x ∉ [60, 62, 34, 39] := by decide
    exact this b hc
  rw [show ent c = [c] by simp [ent, h1, h2, h3, h4, h5], List.mem_singleton] at hc
  subst hc
  simp [h2, h3, h4, h5]

theorem law_ok (l : Bs) (hm : l.length ≤ maxLen) : FnOk Try.prog 3 [str l] (tru true) := by
  refine fnOk Try.func3 rfl (by kernel_rfl) Try.ntmps3 _ rfl (by simp) fun C hc => ?_
  unfold maxLen at hm
  have hS := safeF_ok l (by omega)
  by_cases h : l.length ≤ 200000 ∧ (safe l).length ≤ 200000
  · rw [if_pos h] at hS
    have hM := meantF_ok (safe l) (by omega)
    rw [if_pos h.2, meant_safe] at hM
    have hC := containsAny_none (safe l) [60, 62, 34, 39] (by omega) (by simp) (by simp) (by decide) (safe_none l)
    repeat' (first | (first | refine ewp_seq ?_ | refine run_region hc (by simp; exact Ends.go) (by first | exact True.intro | omega | (simp; done) | (simp; omega) | (simp at *; omega)) ?_ | refine run_draw hc (by kernel_rfl) (by kernel_rfl) (by simp; exact Ends.go) (by first | exact True.intro | omega | (simp; done) | (simp; omega) | (simp at *; omega)) ?_ | refine ewp_scope ?_ | refine scopeQ_normal ?_ | refine scopeQ_ret ?_ | refine scopeQ_exit ?_ | refine ewp_skip ?_ | refine ewp_block ?_ | refine ewp_exit ?_ | refine ewp_label ?_ | refine thenQ_normal ?_ | refine thenQ_ret ?_ | refine thenQ_exit ?_ | refine blockQ_normal ?_ | refine blockQ_ret ?_ | refine blockQ_here ?_ | refine blockQ_there (by decide) ?_ | refine ewp_ret ?_ | refine opsW_nil ?_ | refine quietW_nil ?_ | (refine run_cond (by simp; exact Gives.mk) (fun hb => ?_) (fun hb => ?_) <;> (try simp at hb)) | fail) | (first | refine run_callW hc (by simp; exact Gives.mk) (by simp; exact Gives.mk) (by simp; exact Gives.mk) (by simp; exact Gives.mk) (by simp; exact Gives.mk) (fun _ => by first | exact hS | exact hM | exact hC | exact awake_ok) (by simp) (by simp) ?_ | refine run_callQ hc (by simp; exact Gives.mk) (by simp; exact Gives.mk) (by simp; exact Gives.mk) (by simp; exact Gives.mk) (by simp; exact Gives.mk) (fun _ => by first | exact hS | exact hM | exact hC | exact awake_ok) (by simp) (by simp) ?_ | refine run_ops hc (by simp; first | exact Ends.go | exact Ends.halt) (by decide) (by first | exact True.intro | omega | (simp; done) | (simp; omega) | (simp at *; omega)) ?_ | refine run_quiet hc (by simp; first | exact Ends.go | exact Ends.halt) (by decide) (by first | exact True.intro | omega | (simp; done) | (simp; omega) | (simp at *; omega)) ?_ | refine run_regionW hc (by simp; exact Ends.halt) (by first | exact True.intro | omega | (simp; done) | (simp; omega) | (simp at *; omega)) ?_ | refine run_drawW hc (by kernel_rfl) (by kernel_rfl) (by simp; exact Ends.halt) (by first | exact True.intro | omega | (simp; done) | (simp; omega) | (simp at *; omega)) ?_ | fail))
    all_goals (refine run_leave hc (by simp; exact Gives.mk) ?_)
    all_goals simp
  · rw [if_neg h] at hS
    repeat' (first | (first | refine ewp_seq ?_ | refine run_region hc (by simp; exact Ends.go) (by first | exact True.intro | omega | (simp; done) | (simp; omega) | (simp at *; omega)) ?_ | refine run_draw hc (by kernel_rfl) (by kernel_rfl) (by simp; exact Ends.go) (by first | exact True.intro | omega | (simp; done) | (simp; omega) | (simp at *; omega)) ?_ | refine ewp_scope ?_ | refine scopeQ_normal ?_ | refine scopeQ_ret ?_ | refine scopeQ_exit ?_ | refine ewp_skip ?_ | refine ewp_block ?_ | refine ewp_exit ?_ | refine ewp_label ?_ | refine thenQ_normal ?_ | refine thenQ_ret ?_ | refine thenQ_exit ?_ | refine blockQ_normal ?_ | refine blockQ_ret ?_ | refine blockQ_here ?_ | refine blockQ_there (by decide) ?_ | refine ewp_ret ?_ | refine opsW_nil ?_ | refine quietW_nil ?_ | (refine run_cond (by simp; exact Gives.mk) (fun hb => ?_) (fun hb => ?_) <;> (try simp at hb)) | fail) | (first | refine run_callW hc (by simp; exact Gives.mk) (by simp; exact Gives.mk) (by simp; exact Gives.mk) (by simp; exact Gives.mk) (by simp; exact Gives.mk) (fun _ => by first | exact hS | exact awake_ok) (by simp) (by simp) ?_ | refine run_callQ hc (by simp; exact Gives.mk) (by simp; exact Gives.mk) (by simp; exact Gives.mk) (by simp; exact Gives.mk) (by simp; exact Gives.mk) (fun _ => by first | exact hS | exact awake_ok) (by simp) (by simp) ?_ | refine run_ops hc (by simp; first | exact Ends.go | exact Ends.halt) (by decide) (by first | exact True.intro | omega | (simp; done) | (simp; omega) | (simp at *; omega)) ?_ | refine run_quiet hc (by simp; first | exact Ends.go | exact Ends.halt) (by decide) (by first | exact True.intro | omega | (simp; done) | (simp; omega) | (simp at *; omega)) ?_ | refine run_regionW hc (by simp; exact Ends.halt) (by first | exact True.intro | omega | (simp; done) | (simp; omega) | (simp at *; omega)) ?_ | refine run_drawW hc (by kernel_rfl) (by kernel_rfl) (by simp; exact Ends.halt) (by first | exact True.intro | omega | (simp; done) | (simp; omega) | (simp at *; omega)) ?_ | fail))
    all_goals (refine run_leave hc (by simp; exact Gives.mk) ?_)
    all_goals simp
theorem liftedPageSafeIsMeant (os : Os) (started : os.Started) (H : Type) (enc : TypeId × Value → H) :
    ReturnsInHanded {} Try.checked os 3 .any (Rows.pageSafeIsMeantSpec.pre6 enc Try.prog Try.f3 Rows.pageSafeIsMeantRow.domain false) (Rows.pageSafeIsMeantSpec.post enc Try.prog Try.f3 false true false false) := by
  refine returnsInHanded_of_change_shaped (C := Try.checked) own started (by kernel_rfl) Try.func3
    (ChangeSpec.witness6 (enc := enc) (C := Try.checked) false ⟨#[], #[.string .empty], []⟩ 8 (by kernel_rfl) (by kernel_rfl) (by kernel_rfl) (by kernel_rfl)) ?_
  intro W base args ds gs before hval0 hW hcnd _ hsh _
  have hval : ∀ (j : Nat) t v, Try.f3.params[j]? = some t → args[j]? = some v → Value.okWide Try.prog W .any base t v := hval0
  have hW' := hW
  obtain ⟨p, q, hA0, _, _, _, _⟩ := hW
  have hA : DataW.TrodAll enc Try.prog W 0 (fun _ => true) true Try.f3.params.toList args.toList ds p := hA0
  rw [Try.params3] at hA hval
  obtain ⟨v0, _, d0, _, p0, _, hargs, rfl, _, h0, r0⟩ := trodAll_cons hA
  obtain ⟨rfl, rfl, _⟩ := trodAll_nil r0
  obtain rfl : args = #[v0] := by cases args; simp_all
  obtain ⟨a0, c0, e0⟩ := opnA_s H enc W base v0 d0 p0 (hval 0 _ v0 rfl rfl) h0
  exact law_contract laidOut (of_decide_eq_true (by kernel_rfl)) rfl Try.underlying4 rfl (fun ds hd => by
    match ds, hd with
    | [_], _ => rfl) hW' (std_of_shaped (by kernel_rfl) hsh) (ArgsL.rd (.cons e0 .nil)) (law_ok a0 c0)
theorem overPageSafeIsMeant : Rows.pageSafeIsMeantRow.holds Try.pinned (OpenSpec.ofChange Rows.pageSafeIsMeantSpec) :=
  OpenClaim.holds_of_wide 3 Try.f3 rfl rfl rfl rfl rfl rfl rfl ⟨rfl, rfl, rfl, rfl, rfl⟩ rfl rfl rfl rfl rfl (by kernel_rfl) Try.func3 (by kernel_rfl)
    (of_decide_eq_true (by kernel_rfl)) (by unfold Func.isWrapper; first | (rw [if_pos (by decide +kernel)]; kernel_rfl) | (rw [if_neg (by decide +kernel)]; exact ⟨rfl, rfl⟩))
    (fun os started H enc _ => liftedPageSafeIsMeant os started H enc)

/-- The given statement. -/
theorem pageSafeIsMeant_proved : Rows.PageSafeIsMeantSaid := overPageSafeIsMeant
#print axioms pageSafeIsMeant_proved
end Go.Proofs.Ytgebkjngnfdeiaa
