/-
  PAGE: raw texts, and the page divided. (WITH run_drawN.)
-/
import Derived.Test.YtgebkjngnfdeiaaPgOpen
set_option linter.unusedSimpArgs false
set_option linter.unusedVariables false
namespace Go.Proofs.Ytgebkjngnfdeiaa
open Go.Lw
set_option maxRecDepth 100000
set_option maxHeartbeats 1000000

def rawName (n : Bs) : Bool := decide (n = [115, 99, 114, 105, 112, 116]) || decide (n = [115, 116, 121, 108, 101]) || decide (n = [116, 105, 116, 108, 101])
def rawB (l : Bs) (t : Tk) : Bool := decide (t.kind = 2) && rawName t.name && decide ((l[t.to - 2]?.getD 0).toNat ≠ 47)
theorem isRaw_ok (l : Bs) (i : Nat) (t : Tk) (ht : t.kind = 2 → 2 ≤ t.to ∧ t.to ≤ l.length) (hm : l.length ≤ 200000) : FnOk Try.prog 58 [scnP l i, .agg (encT t)] (tru (rawB l t)) := by
  refine fnOk Try.func58 rfl (by kernel_rfl) Try.ntmps58 _ rfl (by simp) fun C hc => ?_
  obtain ⟨k, f, e, n, m⟩ := t
  by_cases hk : k = 2
  · subst hk
    obtain ⟨h1, h2⟩ := ht rfl
    simp only at h1 h2
    simp only [encT, attD, if_true]
    repeat' (first | (first | refine ewp_seq ?_ | refine run_region hc (by simp; exact Ends.go) (by first | exact True.intro | omega | (simp; done) | (simp; omega) | (simp at *; omega)) ?_ | refine run_draw hc (by kernel_rfl) (by kernel_rfl) (by simp; exact Ends.go) (by first | exact True.intro | omega | (simp; done) | (simp; omega) | (simp at *; omega)) ?_ | refine ewp_scope ?_ | refine scopeQ_normal ?_ | refine scopeQ_ret ?_ | refine scopeQ_exit ?_ | refine ewp_skip ?_ | refine ewp_block ?_ | refine ewp_exit ?_ | refine ewp_label ?_ | refine thenQ_normal ?_ | refine thenQ_ret ?_ | refine thenQ_exit ?_ | refine blockQ_normal ?_ | refine blockQ_ret ?_ | refine blockQ_here ?_ | refine blockQ_there (by decide) ?_ | refine ewp_ret ?_ | refine opsW_nil ?_ | refine quietW_nil ?_ | (refine run_cond (by simp; exact Gives.mk) (fun hb => ?_) (fun hb => ?_) <;> (try simp at hb)) | fail) | (first | refine run_callW hc (by simp; exact Gives.mk) (by simp; exact Gives.mk) (by simp; exact Gives.mk) (by simp; exact Gives.mk) (by simp; exact Gives.mk) (fun _ => by first | exact trivial) (by simp) (by simp) ?_ | refine run_callQ hc (by simp; exact Gives.mk) (by simp; exact Gives.mk) (by simp; exact Gives.mk) (by simp; exact Gives.mk) (by simp; exact Gives.mk) (fun _ => by first | exact trivial) (by simp) (by simp) ?_ | refine run_ops hc (by simp; first | exact Ends.go | exact Ends.halt) (by decide) (by first | exact True.intro | omega | (simp; done) | (simp; omega) | (simp at *; omega)) ?_ | refine run_quiet hc (by simp; first | exact Ends.go | exact Ends.halt) (by decide) (by first | exact True.intro | omega | (simp; done) | (simp; omega) | (simp at *; omega)) ?_ | refine run_regionW hc (by simp; exact Ends.halt) (by first | exact True.intro | omega | (simp; done) | (simp; omega) | (simp at *; omega)) ?_ | refine run_drawN hc (by kernel_rfl) (by decide) (by kernel_rfl) (by simp; exact Ends.halt) (by first | exact True.intro | omega | (simp; done) | (simp; omega) | (simp at *; omega)) ?_ | fail))
    (refine run_leave hc (by simp; exact Gives.mk) ?_)
    refine res_bool ?_
    rw [Bool.eq_iff_iff]; simp [rawB, rawName]; omega
  · simp only [encT, attD, hk, if_false]
    repeat' (first | (first | refine ewp_seq ?_ | refine run_region hc (by simp; exact Ends.go) (by first | exact True.intro | omega | (simp; done) | (simp; omega) | (simp at *; omega)) ?_ | refine run_draw hc (by kernel_rfl) (by kernel_rfl) (by simp; exact Ends.go) (by first | exact True.intro | omega | (simp; done) | (simp; omega) | (simp at *; omega)) ?_ | refine ewp_scope ?_ | refine scopeQ_normal ?_ | refine scopeQ_ret ?_ | refine scopeQ_exit ?_ | refine ewp_skip ?_ | refine ewp_block ?_ | refine ewp_exit ?_ | refine ewp_label ?_ | refine thenQ_normal ?_ | refine thenQ_ret ?_ | refine thenQ_exit ?_ | refine blockQ_normal ?_ | refine blockQ_ret ?_ | refine blockQ_here ?_ | refine blockQ_there (by decide) ?_ | refine ewp_ret ?_ | refine opsW_nil ?_ | refine quietW_nil ?_ | (refine run_cond (by simp; exact Gives.mk) (fun hb => ?_) (fun hb => ?_) <;> (try simp at hb)) | fail) | (first | refine run_callW hc (by simp; exact Gives.mk) (by simp; exact Gives.mk) (by simp; exact Gives.mk) (by simp; exact Gives.mk) (by simp; exact Gives.mk) (fun _ => by first | exact trivial) (by simp) (by simp) ?_ | refine run_callQ hc (by simp; exact Gives.mk) (by simp; exact Gives.mk) (by simp; exact Gives.mk) (by simp; exact Gives.mk) (by simp; exact Gives.mk) (fun _ => by first | exact trivial) (by simp) (by simp) ?_ | refine run_ops hc (by simp; first | exact Ends.go | exact Ends.halt) (by decide) (by first | exact True.intro | omega | (simp; done) | (simp; omega) | (simp at *; omega)) ?_ | refine run_quiet hc (by simp; first | exact Ends.go | exact Ends.halt) (by decide) (by first | exact True.intro | omega | (simp; done) | (simp; omega) | (simp at *; omega)) ?_ | refine run_regionW hc (by simp; exact Ends.halt) (by first | exact True.intro | omega | (simp; done) | (simp; omega) | (simp at *; omega)) ?_ | refine run_drawN hc (by kernel_rfl) (by decide) (by kernel_rfl) (by simp; exact Ends.halt) (by first | exact True.intro | omega | (simp; done) | (simp; omega) | (simp at *; omega)) ?_ | fail))
    (refine run_leave hc (by simp; exact Gives.mk) ?_)
    refine res_bool ?_
    rw [Bool.eq_iff_iff]; simp [rawB, rawName, hk]; omega
def rawAt (l : Bs) (i : Nat) (n : Bs) : Bool := [60, 47].isPrefixOf (l.drop i) && decide (i + 2 + n.length < l.length) && decide (small ((l.take (i + 2 + n.length)).drop (i + 2)) = n) && (decide ((l[i + 2 + n.length]?.getD 0).toNat = 62) || isBl (l[i + 2 + n.length]?.getD 0))
def rawE (l : Bs) (i : Nat) (n : Bs) : Nat := if i < l.length then (if rawAt l i n = true then i else rawE l (i + 1) n) else l.length
termination_by l.length - i
theorem rawE_le (l : Bs) (i : Nat) (n : Bs) (hi : i ≤ l.length) : i ≤ rawE l i n ∧ rawE l i n ≤ l.length := by
  rw [rawE]
  split
  · split
    · omega
    · have := rawE_le l (i + 1) n (by omega)
      omega
  · omega
termination_by l.length - i
theorem rawEnd_ok (l n : Bs) (i : Nat) (hi : i ≤ l.length) (hm : l.length ≤ 200000) (hn : n.length ≤ 200000) : FnOk Try.prog 59 [scnP l i, str n] (int (rawE l i n)) := by
  refine fnOk Try.func59 rfl (by kernel_rfl) Try.ntmps59 _ rfl (by simp) fun C hc => ?_
  repeat' (first | refine ewp_seq ?_ | refine run_region hc (by simp; exact Ends.go) (by first | exact True.intro | omega | (simp; done) | (simp; omega) | (simp at *; omega)) ?_ | refine run_draw hc (by kernel_rfl) (by kernel_rfl) (by simp; exact Ends.go) (by first | exact True.intro | omega | (simp; done) | (simp; omega) | (simp at *; omega)) ?_ | refine ewp_scope ?_ | refine scopeQ_normal ?_ | refine scopeQ_ret ?_ | refine scopeQ_exit ?_ | refine ewp_skip ?_ | refine ewp_block ?_ | refine ewp_exit ?_ | refine ewp_label ?_ | refine thenQ_normal ?_ | refine thenQ_ret ?_ | refine thenQ_exit ?_ | refine blockQ_normal ?_ | refine blockQ_ret ?_ | refine blockQ_here ?_ | refine blockQ_there (by decide) ?_ | refine ewp_ret ?_ | refine opsW_nil ?_ | refine quietW_nil ?_ | (refine run_cond (by simp; exact Gives.mk) (fun hb => ?_) (fun hb => ?_) <;> (try simp at hb)) | fail)
  refine ewp_loop (fun j : Nat => ⟨[(0, .d (scnP l i)), (1, .d (str n)), (5, .d (int j))], []⟩) (fun j => i ≤ j ∧ j ≤ l.length ∧ rawE l i n = rawE l j n) (fun j => l.length - j) i (by simp; omega) (run_keep [0, 1, 5] [] (by simp; exact Gives.mk) (by simp; exact Gives.mk)) ?_
  rintro j ⟨h1, h2, h3⟩
  have h4 : rawE l j n = if j < l.length then (if rawAt l j n = true then j else rawE l (j + 1) n) else l.length := by rw [rawE]
  have hp := fun h => pre_len (p := [60, 47]) (l := l) (i := j) h2 h
  simp only [List.length_cons, List.length_nil] at hp
  have hsm := fun h : (l.take (j + 2 + n.length)).length ≤ 200000 => small_ok ((l.take (j + 2 + n.length)).drop (j + 2)) (by simp at h ⊢; omega)
  repeat' (first | (first | refine ewp_seq ?_ | refine run_region hc (by simp; exact Ends.go) (by first | exact True.intro | omega | (simp; done) | (simp; omega) | (simp at *; omega)) ?_ | refine run_draw hc (by kernel_rfl) (by kernel_rfl) (by simp; exact Ends.go) (by first | exact True.intro | omega | (simp; done) | (simp; omega) | (simp at *; omega)) ?_ | refine ewp_scope ?_ | refine scopeQ_normal ?_ | refine scopeQ_ret ?_ | refine scopeQ_exit ?_ | refine ewp_skip ?_ | refine ewp_block ?_ | refine ewp_exit ?_ | refine ewp_label ?_ | refine thenQ_normal ?_ | refine thenQ_ret ?_ | refine thenQ_exit ?_ | refine blockQ_normal ?_ | refine blockQ_ret ?_ | refine blockQ_here ?_ | refine blockQ_there (by decide) ?_ | refine ewp_ret ?_ | refine opsW_nil ?_ | refine quietW_nil ?_ | (refine run_cond (by simp; exact Gives.mk) (fun hb => ?_) (fun hb => ?_) <;> (try simp at hb)) | fail) | (first | refine run_callW hc (by simp; exact Gives.mk) (by simp; exact Gives.mk) (by simp; exact Gives.mk) (by simp; exact Gives.mk) (by simp; exact Gives.mk) (fun _ => by first | exact hasPrefix_ok _ _ | exact blank_ok _ | exact small_ok _ (by simp; omega)) (by simp) (by simp) ?_ | refine run_callQ hc (by simp; exact Gives.mk) (by simp; exact Gives.mk) (by simp; exact Gives.mk) (by simp; exact Gives.mk) (by simp; exact Gives.mk) (fun _ => by first | exact hasPrefix_ok _ _ | exact blank_ok _ | exact small_ok _ (by simp; omega)) (by simp) (by simp) ?_ | refine run_ops hc (by simp; first | exact Ends.go | exact Ends.halt) (by decide) (by first | exact True.intro | omega | (simp; done) | (simp; omega) | (simp at *; omega)) ?_ | refine run_quiet hc (by simp; first | exact Ends.go | exact Ends.halt) (by decide) (by first | exact True.intro | omega | (simp; done) | (simp; omega) | (simp at *; omega)) ?_ | refine run_regionW hc (by simp; exact Ends.halt) (by first | exact True.intro | omega | (simp; done) | (simp; omega) | (simp at *; omega)) ?_ | refine run_drawN hc (by kernel_rfl) (by decide) (by kernel_rfl) (by simp; exact Ends.halt) (by first | exact True.intro | omega | (simp; done) | (simp; omega) | (simp at *; omega)) ?_ | fail))
  · have eT : ((j : Int) + 2 + (n.length : Int)).toNat = j + 2 + n.length := by omega
    rw [eT] at hb
    have hr : rawAt l j n = true := by
      simp only [rawAt, Bool.and_eq_true, Bool.or_eq_true, decide_eq_true_eq, List.isPrefixOf_iff_prefix]
      exact ⟨⟨⟨hb.1.1.1, by omega⟩, hb.1.2⟩, hb.2.imp (fun h => by omega) id⟩
    rw [h3, h4, if_pos (by assumption), if_pos hr]
    (refine run_leave hc (by simp; exact Gives.mk) ?_)
    simp
  · have eT : ((j : Int) + 2 + (n.length : Int)).toNat = j + 2 + n.length := by omega
    rw [eT] at hb
    have hr : ¬ rawAt l j n = true := by
      intro hr
      simp only [rawAt, Bool.and_eq_true, Bool.or_eq_true, decide_eq_true_eq, List.isPrefixOf_iff_prefix] at hr
      have := hb hr.1.1.1 (by omega) hr.1.2
      rcases hr.2 with h | h
      · omega
      · rw [this.2] at h; cases h
    refine ⟨j + 1, ⟨by omega, by omega, ?_⟩, by omega, run_back [0, 1, 5] [] (by simp; exact Gives.mk) (by simp; exact Gives.mk) (by simp)⟩
    rw [h3, h4, if_pos (by assumption), if_neg hr]
  · rw [h3, h4, if_neg (by omega)]
    (refine run_leave hc (by simp; exact Gives.mk) ?_)
    simp
end Go.Proofs.Ytgebkjngnfdeiaa
