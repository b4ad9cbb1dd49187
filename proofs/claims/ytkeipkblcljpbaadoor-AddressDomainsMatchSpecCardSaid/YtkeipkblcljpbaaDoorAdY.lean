/-
  ADDRESS: AddressDomainsMatchSpec: the law's own walk. (WITH run_drawN.)
-/
import Derived.Test.YtkeipkblcljpbaaDoorR1B
import Derived.Test.YtkeipkblcljpbaaDoorAdX
set_option linter.unusedSimpArgs false
set_option linter.unusedVariables false
namespace Go.Proofs.YtkeipkblcljpbaaDoor
open Go.Lw Go.RowKit Go.ChangeShapes Go.WideShapes Go.ChangeAt
set_option maxRecDepth 100000
set_option maxHeartbeats 1000000

theorem domainsSpec_ok (s : Bs) (l : List Bs) (hs : s.length ≤ maxLen) (hl : l.length ≤ maxLen ∧ ∀ x ∈ l, x.length ≤ maxLen) : FnOk Tryd.prog 4 [str s, strSl l] (tru true) := by
  have hs' : s.length ≤ 9223372036854775807 := by simpa [maxLen] using hs
  have hl' : l.length ≤ 9223372036854775807 := by simpa [maxLen] using hl.1
  refine fnOk Tryd.func4 rfl (by kernel_rfl) Tryd.ntmps4 _ rfl (by simp) fun C hc => ?_
  have h1 := domain_ok s l hs' hl' (all_len hl.2)
  have h2 := qDomain_ok s l hs' hl' (all_len hl.2)
  have h3 := checkSuf_ok l hl' (all_len hl.2)
  have h4 := qCheckSuf_ok l hl' (all_len hl.2)
  repeat' (first | (first | refine ewp_seq ?_ | refine run_region hc (by simp; exact Ends.go) (by first | exact True.intro | omega | assumption | (simp; done) | (simp; omega) | (simp at *; omega)) ?_ | refine run_draw hc (by kernel_rfl) (by kernel_rfl) (by simp; exact Ends.go) (by first | exact True.intro | omega | assumption | (simp; done) | (simp; omega) | (simp at *; omega)) ?_ | refine ewp_scope ?_ | refine scopeQ_normal ?_ | refine scopeQ_ret ?_ | refine scopeQ_exit ?_ | refine ewp_skip ?_ | refine ewp_block ?_ | refine ewp_exit ?_ | refine ewp_label ?_ | refine thenQ_normal ?_ | refine thenQ_ret ?_ | refine thenQ_exit ?_ | refine blockQ_normal ?_ | refine blockQ_ret ?_ | refine blockQ_here ?_ | refine blockQ_there (by decide) ?_ | refine ewp_ret ?_ | refine opsW_nil ?_ | refine quietW_nil ?_ | (refine run_cond (by simp; exact Gives.mk) (fun hb => ?_) (fun hb => ?_) <;> (try simp at hb)) | fail) | (first | refine run_callW hc (by simp; exact Gives.mk) (by simp; exact Gives.mk) (by simp; exact Gives.mk) (by simp; exact Gives.mk) (by simp; exact Gives.mk) (fun _ => by first | exact h1 | exact h2 | exact h3 | exact h4 | exact awake_ok) (by simp) (by simp) ?_ | refine run_callQ hc (by simp; exact Gives.mk) (by simp; exact Gives.mk) (by simp; exact Gives.mk) (by simp; exact Gives.mk) (by simp; exact Gives.mk) (fun _ => by first | exact h1 | exact h2 | exact h3 | exact h4 | exact awake_ok) (by simp) (by simp) ?_ | refine run_ops hc (by simp; first | exact Ends.go | exact Ends.halt) (by decide) (by first | exact True.intro | omega | assumption | (simp; done) | (simp; omega) | (simp at *; omega)) ?_ | refine run_quiet hc (by simp; first | exact Ends.go | exact Ends.halt) (by decide) (by first | exact True.intro | omega | assumption | (simp; done) | (simp; omega) | (simp at *; omega)) ?_ | refine run_regionW hc (by simp; exact Ends.halt) (by first | exact True.intro | omega | assumption | (simp; done) | (simp; omega) | (simp at *; omega)) ?_ | refine run_drawN hc (by kernel_rfl) (by decide) (by kernel_rfl) (by simp; exact Ends.halt) (by first | exact True.intro | omega | assumption | (simp; done) | (simp; omega) | (simp at *; omega)) ?_ | fail))
  all_goals try contradiction
  (refine run_leave hc (by simp; exact Gives.mk) ?_)
  simp
end Go.Proofs.YtkeipkblcljpbaaDoor
