/-
  ADDRESS: AddressDomainsEnd: the law's own walk. (WITH run_drawN.)
-/
import Derived.Test.YtkeipkblcljpbaaDoorAdW
import Derived.Test.YtkeipkblcljpbaaDoorAdH
set_option linter.unusedSimpArgs false
set_option linter.unusedVariables false
namespace Go.Proofs.YtkeipkblcljpbaaDoor
open Go.Lw Go.RowKit Go.ChangeShapes Go.WideShapes Go.ChangeAt
set_option maxRecDepth 100000
set_option maxHeartbeats 1000000

theorem opn_s : Opn Tryd.prog 9 (fun l : Bs => [str l]) (fun l : Bs => l.length ≤ maxLen) :=
  (opn_string Tryd.underlying9).map (e' := fun l : Bs => [str l]) (p' := fun l : Bs => l.length ≤ maxLen) (fun b => b.data.toList) (fun _ _ => rfl) (fun b h => by simpa using h)
theorem opnA_strs : OpnA Tryd.prog 31 strSl (fun l => l.length ≤ maxLen ∧ ∀ x ∈ l, x.length ≤ maxLen) :=
  opnA_cell (opn_slice ([] : Bs) Tryd.underlying31 (n := 1) (by kernel_rfl) (by omega) opn_s) (fun l => by simp) (by kernel_rfl)
theorem hasSuffix_ok (s p : Bs) (hm : s.length ≤ 9223372036854775807) : FnOk Tryd.prog 16 [str s, str p] (tru (p.isSuffixOf s)) :=
  fnOk_lits [.string (bs s), .string (bs p)] (by kernel_rfl) fun w _ => Tryd.strings_HasSuffix (bs s) (bs p) w (by simpa using hm)
theorem all_len {l : List Bs} (h : ∀ x ∈ l, x.length ≤ maxLen) (j : Nat) : (l[j]?.getD []).length ≤ 9223372036854775807 := by
  rcases Nat.lt_or_ge j l.length with hj | hj
  · rw [List.getElem?_eq_getElem hj]
    have := h _ (List.getElem_mem hj)
    simpa [maxLen] using this
  · rw [List.getElem?_eq_none hj]; simp
theorem domC_len (s : Bs) (l : List Bs) : (domC s l).1.length ≤ 253 := by
  unfold domC
  split
  · simp
  split
  · simp
  split
  · simp
  rename_i h1 _ _
  have h3 := hostS_len (s := s) (by simpa using h1)
  have := tail_len (Lib.split s [46]) (sfx (Lib.split s [46]) l + 1)
  rw [join_split] at this
  simp only
  omega
theorem domainsEnd_ok (s : Bs) (l : List Bs) (hs : s.length ≤ maxLen) (hl : l.length ≤ maxLen ∧ ∀ x ∈ l, x.length ≤ maxLen) : FnOk Tryd.prog 5 [str s, strSl l] (tru true) := by
  have hs' : s.length ≤ 9223372036854775807 := by simpa [maxLen] using hs
  have hl' : l.length ≤ 9223372036854775807 := by simpa [maxLen] using hl.1
  refine fnOk Tryd.func5 rfl (by kernel_rfl) Tryd.ntmps5 _ rfl (by simp) fun C hc => ?_
  have h1 := domain_ok s l hs' hl' (all_len hl.2)
  have hle := domC_len s l
  rcases domC_cases s l with ⟨e1, e2⟩ | e
  · rcases hx : domC s l with ⟨d, b, f⟩
    rw [hx] at h1 e1 e2
    simp only at e1 e2
    subst e1
    subst e2
    repeat' (first | (first | refine ewp_seq ?_ | refine run_region hc (by simp; exact Ends.go) (by first | exact True.intro | omega | assumption | (simp; done) | (simp; omega) | (simp at *; omega)) ?_ | refine run_draw hc (by kernel_rfl) (by kernel_rfl) (by simp; exact Ends.go) (by first | exact True.intro | omega | assumption | (simp; done) | (simp; omega) | (simp at *; omega)) ?_ | refine ewp_scope ?_ | refine scopeQ_normal ?_ | refine scopeQ_ret ?_ | refine scopeQ_exit ?_ | refine ewp_skip ?_ | refine ewp_block ?_ | refine ewp_exit ?_ | refine ewp_label ?_ | refine thenQ_normal ?_ | refine thenQ_ret ?_ | refine thenQ_exit ?_ | refine blockQ_normal ?_ | refine blockQ_ret ?_ | refine blockQ_here ?_ | refine blockQ_there (by decide) ?_ | refine ewp_ret ?_ | refine opsW_nil ?_ | refine quietW_nil ?_ | (refine run_cond (by simp; exact Gives.mk) (fun hb => ?_) (fun hb => ?_) <;> (try simp at hb)) | fail) | (first | refine run_callW hc (by simp; exact Gives.mk) (by simp; exact Gives.mk) (by simp; exact Gives.mk) (by simp; exact Gives.mk) (by simp; exact Gives.mk) (fun _ => by first | exact h1 | exact awake_ok) (by simp) (by simp) ?_ | refine run_callQ hc (by simp; exact Gives.mk) (by simp; exact Gives.mk) (by simp; exact Gives.mk) (by simp; exact Gives.mk) (by simp; exact Gives.mk) (fun _ => by first | exact h1 | exact awake_ok) (by simp) (by simp) ?_ | refine run_ops hc (by simp; first | exact Ends.go | exact Ends.halt) (by decide) (by first | exact True.intro | omega | assumption | (simp; done) | (simp; omega) | (simp at *; omega)) ?_ | refine run_quiet hc (by simp; first | exact Ends.go | exact Ends.halt) (by decide) (by first | exact True.intro | omega | assumption | (simp; done) | (simp; omega) | (simp at *; omega)) ?_ | refine run_regionW hc (by simp; exact Ends.halt) (by first | exact True.intro | omega | assumption | (simp; done) | (simp; omega) | (simp at *; omega)) ?_ | refine run_drawN hc (by kernel_rfl) (by decide) (by kernel_rfl) (by simp; exact Ends.halt) (by first | exact True.intro | omega | assumption | (simp; done) | (simp; omega) | (simp at *; omega)) ?_ | fail))
    all_goals try contradiction
    (refine run_leave hc (by simp; exact Gives.mk) ?_)
    simp
  · have hend := domC_end e
    generalize (domC s l).1 = d at e hend hle
    rw [e] at h1
    have h2 := domain_ok d l (by omega) hl' (all_len hl.2)
    rw [hend.2] at h2
    have h3 := hasSuffix_ok s (46 :: d) hs'
    repeat' (first | (first | refine ewp_seq ?_ | refine run_region hc (by simp; exact Ends.go) (by first | exact True.intro | omega | assumption | (simp; done) | (simp; omega) | (simp at *; omega)) ?_ | refine run_draw hc (by kernel_rfl) (by kernel_rfl) (by simp; exact Ends.go) (by first | exact True.intro | omega | assumption | (simp; done) | (simp; omega) | (simp at *; omega)) ?_ | refine ewp_scope ?_ | refine scopeQ_normal ?_ | refine scopeQ_ret ?_ | refine scopeQ_exit ?_ | refine ewp_skip ?_ | refine ewp_block ?_ | refine ewp_exit ?_ | refine ewp_label ?_ | refine thenQ_normal ?_ | refine thenQ_ret ?_ | refine thenQ_exit ?_ | refine blockQ_normal ?_ | refine blockQ_ret ?_ | refine blockQ_here ?_ | refine blockQ_there (by decide) ?_ | refine ewp_ret ?_ | refine opsW_nil ?_ | refine quietW_nil ?_ | (refine run_cond (by simp; exact Gives.mk) (fun hb => ?_) (fun hb => ?_) <;> (try simp at hb)) | fail) | (first | refine run_callW hc (by simp; exact Gives.mk) (by simp; exact Gives.mk) (by simp; exact Gives.mk) (by simp; exact Gives.mk) (by simp; exact Gives.mk) (fun _ => by first | exact h1 | exact h2 | exact h3 | exact awake_ok) (by simp) (by simp) ?_ | refine run_callQ hc (by simp; exact Gives.mk) (by simp; exact Gives.mk) (by simp; exact Gives.mk) (by simp; exact Gives.mk) (by simp; exact Gives.mk) (fun _ => by first | exact h1 | exact h2 | exact h3 | exact awake_ok) (by simp) (by simp) ?_ | refine run_ops hc (by simp; first | exact Ends.go | exact Ends.halt) (by decide) (by first | exact True.intro | omega | assumption | (simp; done) | (simp; omega) | (simp at *; omega)) ?_ | refine run_quiet hc (by simp; first | exact Ends.go | exact Ends.halt) (by decide) (by first | exact True.intro | omega | assumption | (simp; done) | (simp; omega) | (simp at *; omega)) ?_ | refine run_regionW hc (by simp; exact Ends.halt) (by first | exact True.intro | omega | assumption | (simp; done) | (simp; omega) | (simp at *; omega)) ?_ | refine run_drawN hc (by kernel_rfl) (by decide) (by kernel_rfl) (by simp; exact Ends.halt) (by first | exact True.intro | omega | assumption | (simp; done) | (simp; omega) | (simp at *; omega)) ?_ | fail))
    all_goals try contradiction
    · rcases hend.1 with h | h
      · exact absurd h hb.1
      · rw [← List.isSuffixOf_iff_suffix, hb.2] at h
        cases h
    · (refine run_leave hc (by simp; exact Gives.mk) ?_)
      simp
end Go.Proofs.YtkeipkblcljpbaaDoor
