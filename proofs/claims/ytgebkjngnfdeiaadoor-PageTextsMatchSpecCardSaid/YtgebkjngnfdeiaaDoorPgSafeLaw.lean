/-
  PageSafeIsMeant: what is safe means what it was made of, and has no byte that could end it.
-/
import Derived.Test.YtgebkjngnfdeiaaDoorPgSafe
import Derived.Test.YtgebkjngnfdeiaaDoorLibAny
import Derived.Test.YtgebkjngnfdeiaaDoorLwTop
set_option linter.unusedSimpArgs false
set_option linter.unusedVariables false
namespace Go.Proofs.YtgebkjngnfdeiaaDoor
open Go.Lw Go.RowKit Go.ChangeShapes Go.WideShapes Go.ChangeAt
set_option maxRecDepth 100000
set_option maxHeartbeats 400000

theorem awake_ok : FnOk Tryd.prog 13 [] (tru true) := by
  refine fnOk Tryd.func13 rfl (by kernel_rfl) Tryd.ntmps13 _ rfl (by simp) fun C hc => ?_
  have hS := safeF_ok [60] (by simp)
  rw [show safe [60] = [38, 108, 116, 59] by simp [safe, ent]] at hS
  simp only [List.length_cons, List.length_nil, Nat.reduceAdd, Nat.reduceLeDiff, and_self, if_true] at hS
  repeat' (first | (first | refine ewp_seq ?_ | refine run_region hc (by simp; exact Ends.go) (by first | exact True.intro | omega | (simp; done) | (simp; omega) | (simp at *; omega)) ?_ | refine run_draw hc (by kernel_rfl) (by kernel_rfl) (by simp; exact Ends.go) (by first | exact True.intro | omega | (simp; done) | (simp; omega) | (simp at *; omega)) ?_ | refine ewp_scope ?_ | refine scopeQ_normal ?_ | refine scopeQ_ret ?_ | refine scopeQ_exit ?_ | refine ewp_skip ?_ | refine ewp_block ?_ | refine ewp_exit ?_ | refine ewp_label ?_ | refine thenQ_normal ?_ | refine thenQ_ret ?_ | refine thenQ_exit ?_ | refine blockQ_normal ?_ | refine blockQ_ret ?_ | refine blockQ_here ?_ | refine blockQ_there (by decide) ?_ | refine ewp_ret ?_ | refine opsW_nil ?_ | refine quietW_nil ?_ | (refine run_cond (by simp; exact Gives.mk) (fun hb => ?_) (fun hb => ?_) <;> (try simp at hb)) | fail) | (first | refine run_callW hc (by simp; exact Gives.mk) (by simp; exact Gives.mk) (by simp; exact Gives.mk) (by simp; exact Gives.mk) (by simp; exact Gives.mk) (fun _ => by first | exact hS) (by simp) (by simp) ?_ | refine run_callQ hc (by simp; exact Gives.mk) (by simp; exact Gives.mk) (by simp; exact Gives.mk) (by simp; exact Gives.mk) (by simp; exact Gives.mk) (fun _ => by first | exact hS) (by simp) (by simp) ?_ | refine run_ops hc (by simp; first | exact Ends.go | exact Ends.halt) (by decide) (by first | exact True.intro | omega | (simp; done) | (simp; omega) | (simp at *; omega)) ?_ | refine run_quiet hc (by simp; first | exact Ends.go | exact Ends.halt) (by decide) (by first | exact True.intro | omega | (simp; done) | (simp; omega) | (simp at *; omega)) ?_ | refine run_regionW hc (by simp; exact Ends.halt) (by first | exact True.intro | omega | (simp; done) | (simp; omega) | (simp at *; omega)) ?_ | refine run_drawW hc (by kernel_rfl) (by kernel_rfl) (by simp; exact Ends.halt) (by first | exact True.intro | omega | (simp; done) | (simp; omega) | (simp at *; omega)) ?_ | fail))
  all_goals (refine run_leave hc (by simp; exact Gives.mk) ?_)
  all_goals simp
theorem opnA_s : OpnA Tryd.prog 9 str (fun l : Bs => l.length ≤ maxLen) :=
  opnA_cell ((opn_string Tryd.underlying9).map (e' := fun l : Bs => [str l]) (p' := fun l : Bs => l.length ≤ maxLen) (fun b => b.data.toList) (fun _ _ => rfl) (fun b h => by simpa using h)) (fun _ => rfl) (by kernel_rfl)
theorem own : ownKnob Tryd.prog.godebug = none := by kernel_rfl
theorem laidOut : laidOutB Tryd.prog = true := by kernel_rfl

theorem sg_ent (c : UInt8) (r : Bs) : (sg (ent c ++ r) 5 = none ∧ ent c = [c]) ∨ (sg (ent c ++ r) 5 = some (ent c, c) ∧ 2 ≤ (ent c).length) := by
  by_cases h1 : c = 38
  · subst h1; right; simp [sg, E5, ent]
  by_cases h2 : c = 60
  · subst h2; right; simp [sg, E5, ent]
  by_cases h3 : c = 62
  · subst h3; right; simp [sg, E5, ent]
  by_cases h4 : c = 34
  · subst h4; right; simp [sg, E5, ent]
  by_cases h5 : c = 39
  · subst h5; right; simp [sg, E5, ent]
  left
  have e : ent c = [c] := by simp [ent, h1, h2, h3, h4, h5]
  refine ⟨?_, e⟩
  rw [e]
  have h1' : ¬ (38 : UInt8) = c := fun h => h1 h.symm
  simp [sg, E5, h1']
theorem meant_safe (l : Bs) : meant (safe l) = l := by
  induction l with
  | nil => simp [safe, meant]
  | cons c l ih =>
    have e : safe (c :: l) = ent c ++ safe l := by simp [safe]
    rw [e]
    rcases sg_ent c (safe l) with ⟨h1, h2⟩ | ⟨h1, h2⟩
    · rw [h2] at h1 ⊢
      rw [List.singleton_append] at h1 ⊢
      rw [meant, h1]
      simp [ih]
    · generalize hE : ent c = E at h1 h2 ⊢
      match E, h2 with
      | a :: E, h2 =>
        rw [List.cons_append] at h1 ⊢
        rw [meant, h1]
        simp [ih]
theorem safe_none (l : Bs) : ∀ b ∈ safe l, b ∉ [60, 62, 34, 39] := by
  intro b hb
  simp only [safe, List.mem_flatMap] at hb
  obtain ⟨c, _, hc⟩ := hb
  by_cases h1 : c = 38
  · subst h1; have : ∀ x ∈ ent 38, x ∉ [60, 62, 34, 39] := by decide
    exact this b hc
  by_cases h2 : c = 60
  · subst h2; have : ∀ x ∈ ent 60, x ∉ [60, 62, 34, 39] := by decide
    exact this b hc
  by_cases h3 : c = 62
  · subst h3; have : ∀ x ∈ ent 62, x ∉ [60, 62, 34, 39] := by decide
    exact this b hc
  by_cases h4 : c = 34
  · subst h4; have : ∀ x ∈ ent 34, x ∉ [60, 62, 34, 39] := by decide
    exact this b hc
  by_cases h5 : c = 39
  · subst h5; have : ∀ x ∈ ent 39, x ∉ [60, 62, 34, 39] := by decide
    exact this b hc
  rw [show ent c = [c] by simp [ent, h1, h2, h3, h4, h5], List.mem_singleton] at hc
  subst hc
  simp [h2, h3, h4, h5]

end Go.Proofs.YtgebkjngnfdeiaaDoor
