/-
  CHAPTER 1's REFERENCE: the check and the text of an address. (WITH run_drawN.)
-/
import Derived.Test.YtglonkenckigiaaGreatDoorQA
set_option linter.unusedSimpArgs false
set_option linter.unusedVariables false
namespace Go.Proofs.YtglonkenckigiaaGreatDoor
open Go.Lw Go.RowKit
set_option maxRecDepth 100000
set_option maxHeartbeats 1000000

theorem chk_form {a : Adr} (h : ¬ okS a.scheme ∨ isHostB a.host = false ∨ (a.port ≠ [] ∧ portB a.port = 0) ∨ ¬ pathB a.path ∨ ¬ isRow [] a.query ∨ ¬ isRow [] a.frag) : chkC a = 10 := by
  by_cases hS : chkS a
  · exact chk_S hS
  refine chk_R hS ?_
  simp only [chkS, not_or] at hS
  rcases h with h | h | h | h | h | h
  · exact absurd h hS.1
  · exact absurd h hS.2.1
  · exact absurd h hS.2.2
  · simp only [pathB, not_or, not_and] at h
    by_cases e : (a.path[0]?.getD 0).toNat = 47
    · exact .inr (.inl (h.2 e))
    · exact .inl ⟨h.1, e⟩
  · exact .inr (.inr (.inl h))
  · exact .inr (.inr (.inr h))
theorem chk_formN {a : Adr} (h1 : okS a.scheme) (h2 : isHostB a.host = true) (h3 : a.port ≠ [] → portB a.port ≠ 0) (h4 : pathB a.path) (h5 : isRow [] a.query) (h6 : isRow [] a.frag) : ¬ chkS a ∧ ¬ chkR a := by
  constructor
  · rintro (h | h | h)
    · exact h h1
    · rw [h2] at h; cases h
    · exact h3 h.1 h.2
  · rintro (h | h | h | h)
    · rcases h4 with e | e
      · exact h.1 e
      · exact h.2 e.1
    · rcases h4 with e | e
      · rw [e] at h; exact h rfl
      · exact h e.2
    · exact h h5
    · exact h h6
theorem qCheck_ok (a : Adr) (hf : a.Fits) : FnOk Tryz.prog 20 [adrD a] (int (chkC a)) := by
  refine fnOk Tryz.func20 rfl (by kernel_rfl) Tryz.ntmps20 _ rfl (by simp) fun C hc => ?_
  have hW := qWritten_ok a hf
  obtain ⟨h1, h2, h3, h4, h5, h6⟩ := hf
  have hSc := qIsScheme_ok a.scheme (by omega)
  have hHo := qHost_ok a.host (by omega)
  have hPo := qPort_ok a.port (by omega)
  have hPa := qIsPath_ok a.path (by omega)
  have hR2 := qIsRow_ok a.query (by omega)
  have hR3 := qIsRow_ok a.frag (by omega)
  have hform := chk_form (a := a)
  have hformN := chk_formN (a := a)
  have hcF := chk_F (a := a)
  have hcL := chk_L (a := a)
  have hnF := chk_nF (a := a)
  generalize chkC a = k at hform hcF hcL ⊢
  repeat' (first | (first | refine ewp_seq ?_ | refine run_region hc (by simp; exact Ends.go) (by first | exact True.intro | omega | assumption | (simp; done) | (simp; omega) | (simp at *; omega)) ?_ | refine run_draw hc (by kernel_rfl) (by kernel_rfl) (by simp; exact Ends.go) (by first | exact True.intro | omega | assumption | (simp; done) | (simp; omega) | (simp at *; omega)) ?_ | refine ewp_scope ?_ | refine scopeQ_normal ?_ | refine scopeQ_ret ?_ | refine scopeQ_exit ?_ | refine ewp_skip ?_ | refine ewp_block ?_ | refine ewp_exit ?_ | refine ewp_label ?_ | refine thenQ_normal ?_ | refine thenQ_ret ?_ | refine thenQ_exit ?_ | refine blockQ_normal ?_ | refine blockQ_ret ?_ | refine blockQ_here ?_ | refine blockQ_there (by decide) ?_ | refine ewp_ret ?_ | refine opsW_nil ?_ | refine quietW_nil ?_ | (refine run_cond (by simp; exact Gives.mk) (fun hb => ?_) (fun hb => ?_) <;> (try simp at hb)) | fail) | (first | refine run_callW hc (by simp; exact Gives.mk) (by simp; exact Gives.mk) (by simp; exact Gives.mk) (by simp; exact Gives.mk) (by simp; exact Gives.mk) (fun _ => by first | exact hSc | exact hHo | exact hPo | exact hPa | exact hR2 | exact hR3 | exact hW) (by simp) (by simp) ?_ | refine run_callQ hc (by simp; exact Gives.mk) (by simp; exact Gives.mk) (by simp; exact Gives.mk) (by simp; exact Gives.mk) (by simp; exact Gives.mk) (fun _ => by first | exact hSc | exact hHo | exact hPo | exact hPa | exact hR2 | exact hR3 | exact hW) (by simp) (by simp) ?_ | refine run_ops hc (by simp; first | exact Ends.go | exact Ends.halt) (by decide) (by first | exact True.intro | omega | assumption | (simp; done) | (simp; omega) | (simp at *; omega)) ?_ | refine run_quiet hc (by simp; first | exact Ends.go | exact Ends.halt) (by decide) (by first | exact True.intro | omega | assumption | (simp; done) | (simp; omega) | (simp at *; omega)) ?_ | refine run_regionW hc (by simp; exact Ends.halt) (by first | exact True.intro | omega | assumption | (simp; done) | (simp; omega) | (simp at *; omega)) ?_ | refine run_drawN hc (by kernel_rfl) (by decide) (by kernel_rfl) (by simp; exact Ends.halt) (by first | exact True.intro | omega | assumption | (simp; done) | (simp; omega) | (simp at *; omega)) ?_ | fail))
  · rw [hform (by
      rcases hb with ((((h | h) | h) | h) | h) | h
      · exact .inl h
      · exact .inr (.inl h)
      · exact .inr (.inr (.inl h))
      · exact .inr (.inr (.inr (.inl h)))
      · exact .inr (.inr (.inr (.inr (.inl h))))
      · exact .inr (.inr (.inr (.inr (.inr h)))))]
    (refine run_leave hc (by simp; exact Gives.mk) ?_)
    simp
  · rename_i k
    obtain ⟨n1, n2⟩ := hformN k.1.1.1.1.1 k.1.1.1.1.2 k.1.1.1.2 k.1.1.2 k.1.2 k.2
    rw [hcF n1 n2 hb]
    (refine run_leave hc (by simp; exact Gives.mk) ?_)
    simp
  · rename_i k k2
    obtain ⟨n1, n2⟩ := hformN k.1.1.1.1.1 k.1.1.1.1.2 k.1.1.1.2 k.1.1.2 k.1.2 k.2
    rw [hcL n1 n2 (hnF k2.1 k2.2), if_pos (by omega)]
    (refine run_leave hc (by simp; exact Gives.mk) ?_)
    simp
  · rename_i k k2
    obtain ⟨n1, n2⟩ := hformN k.1.1.1.1.1 k.1.1.1.1.2 k.1.1.1.2 k.1.1.2 k.1.2 k.2
    rw [hcL n1 n2 (hnF k2.1 k2.2), if_neg (by omega)]
    (refine run_leave hc (by simp; exact Gives.mk) ?_)
    simp
theorem qText_ok (a : Adr) (hf : a.Fits) : FnOk Tryz.prog 16 [adrD a] (.tup [str (textC a).1, int (textC a).2]) := by
  refine fnOk Tryz.func16 rfl (by kernel_rfl) Tryz.ntmps16 _ rfl (by simp) fun C hc => ?_
  have hW := qWritten_ok a hf
  have hC := qCheck_ok a hf
  unfold textC
  by_cases h : chkC a = 0
  · rw [if_pos h]
    rw [h] at hC
    repeat' (first | (first | refine ewp_seq ?_ | refine run_region hc (by simp; exact Ends.go) (by first | exact True.intro | omega | assumption | (simp; done) | (simp; omega) | (simp at *; omega)) ?_ | refine run_draw hc (by kernel_rfl) (by kernel_rfl) (by simp; exact Ends.go) (by first | exact True.intro | omega | assumption | (simp; done) | (simp; omega) | (simp at *; omega)) ?_ | refine ewp_scope ?_ | refine scopeQ_normal ?_ | refine scopeQ_ret ?_ | refine scopeQ_exit ?_ | refine ewp_skip ?_ | refine ewp_block ?_ | refine ewp_exit ?_ | refine ewp_label ?_ | refine thenQ_normal ?_ | refine thenQ_ret ?_ | refine thenQ_exit ?_ | refine blockQ_normal ?_ | refine blockQ_ret ?_ | refine blockQ_here ?_ | refine blockQ_there (by decide) ?_ | refine ewp_ret ?_ | refine opsW_nil ?_ | refine quietW_nil ?_ | (refine run_cond (by simp; exact Gives.mk) (fun hb => ?_) (fun hb => ?_) <;> (try simp at hb)) | fail) | (first | refine run_callW hc (by simp; exact Gives.mk) (by simp; exact Gives.mk) (by simp; exact Gives.mk) (by simp; exact Gives.mk) (by simp; exact Gives.mk) (fun _ => by first | exact hC | exact hW) (by simp) (by simp) ?_ | refine run_callQ hc (by simp; exact Gives.mk) (by simp; exact Gives.mk) (by simp; exact Gives.mk) (by simp; exact Gives.mk) (by simp; exact Gives.mk) (fun _ => by first | exact hC | exact hW) (by simp) (by simp) ?_ | refine run_ops hc (by simp; first | exact Ends.go | exact Ends.halt) (by decide) (by first | exact True.intro | omega | assumption | (simp; done) | (simp; omega) | (simp at *; omega)) ?_ | refine run_quiet hc (by simp; first | exact Ends.go | exact Ends.halt) (by decide) (by first | exact True.intro | omega | assumption | (simp; done) | (simp; omega) | (simp at *; omega)) ?_ | refine run_regionW hc (by simp; exact Ends.halt) (by first | exact True.intro | omega | assumption | (simp; done) | (simp; omega) | (simp at *; omega)) ?_ | refine run_drawN hc (by kernel_rfl) (by decide) (by kernel_rfl) (by simp; exact Ends.halt) (by first | exact True.intro | omega | assumption | (simp; done) | (simp; omega) | (simp at *; omega)) ?_ | fail))
    all_goals try contradiction
    (refine run_leave hc (by simp; exact Gives.mk) ?_)
    simp
  · rw [if_neg h]
    repeat' (first | (first | refine ewp_seq ?_ | refine run_region hc (by simp; exact Ends.go) (by first | exact True.intro | omega | assumption | (simp; done) | (simp; omega) | (simp at *; omega)) ?_ | refine run_draw hc (by kernel_rfl) (by kernel_rfl) (by simp; exact Ends.go) (by first | exact True.intro | omega | assumption | (simp; done) | (simp; omega) | (simp at *; omega)) ?_ | refine ewp_scope ?_ | refine scopeQ_normal ?_ | refine scopeQ_ret ?_ | refine scopeQ_exit ?_ | refine ewp_skip ?_ | refine ewp_block ?_ | refine ewp_exit ?_ | refine ewp_label ?_ | refine thenQ_normal ?_ | refine thenQ_ret ?_ | refine thenQ_exit ?_ | refine blockQ_normal ?_ | refine blockQ_ret ?_ | refine blockQ_here ?_ | refine blockQ_there (by decide) ?_ | refine ewp_ret ?_ | refine opsW_nil ?_ | refine quietW_nil ?_ | (refine run_cond (by simp; exact Gives.mk) (fun hb => ?_) (fun hb => ?_) <;> (try simp at hb)) | fail) | (first | refine run_callW hc (by simp; exact Gives.mk) (by simp; exact Gives.mk) (by simp; exact Gives.mk) (by simp; exact Gives.mk) (by simp; exact Gives.mk) (fun _ => by first | exact hC | exact hW) (by simp) (by simp) ?_ | refine run_callQ hc (by simp; exact Gives.mk) (by simp; exact Gives.mk) (by simp; exact Gives.mk) (by simp; exact Gives.mk) (by simp; exact Gives.mk) (fun _ => by first | exact hC | exact hW) (by simp) (by simp) ?_ | refine run_ops hc (by simp; first | exact Ends.go | exact Ends.halt) (by decide) (by first | exact True.intro | omega | assumption | (simp; done) | (simp; omega) | (simp at *; omega)) ?_ | refine run_quiet hc (by simp; first | exact Ends.go | exact Ends.halt) (by decide) (by first | exact True.intro | omega | assumption | (simp; done) | (simp; omega) | (simp at *; omega)) ?_ | refine run_regionW hc (by simp; exact Ends.halt) (by first | exact True.intro | omega | assumption | (simp; done) | (simp; omega) | (simp at *; omega)) ?_ | refine run_drawN hc (by kernel_rfl) (by decide) (by kernel_rfl) (by simp; exact Ends.halt) (by first | exact True.intro | omega | assumption | (simp; done) | (simp; omega) | (simp at *; omega)) ?_ | fail))
    · (refine run_leave hc (by simp; exact Gives.mk) ?_)
      simp
    · exact absurd hb h
end Go.Proofs.YtglonkenckigiaaGreatDoor
