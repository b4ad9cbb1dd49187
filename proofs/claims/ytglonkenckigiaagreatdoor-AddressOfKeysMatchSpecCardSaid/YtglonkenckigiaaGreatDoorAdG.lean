/-
  ADDRESS: write, CheckAddress, Text. (WITH run_drawN.)
-/
import Derived.Test.YtglonkenckigiaaGreatDoorAdF
set_option linter.unusedSimpArgs false
set_option linter.unusedVariables false
namespace Go.Proofs.YtglonkenckigiaaGreatDoor
open Go.Lw Go.RowKit
set_option maxRecDepth 100000
set_option maxHeartbeats 1000000

/-- Strings as long as the form lets them be. -/
structure Adr.Fits (a : Adr) : Prop where
  scheme : a.scheme.length ≤ 140737488355327
  host : a.host.length ≤ 140737488355327
  port : a.port.length ≤ 140737488355327
  path : a.path.length ≤ 140737488355327
  query : a.query.length ≤ 140737488355327
  frag : a.frag.length ≤ 140737488355327
theorem behind_ok (a : Adr) (hf : a.Fits) : FnOk Tryz.prog 40 [adrD a] (str (behindA a)) := by
  refine fnOk Tryz.func40 rfl (by kernel_rfl) Tryz.ntmps40 _ rfl (by simp) fun C hc => ?_
  obtain ⟨h1, h2, h3, h4, h5, h6⟩ := hf
  repeat' (first | (first | refine ewp_seq ?_ | refine run_region hc (by simp; exact Ends.go) (by first | exact True.intro | omega | assumption | (simp; done) | (simp; omega) | (simp at *; omega)) ?_ | refine run_draw hc (by kernel_rfl) (by kernel_rfl) (by simp; exact Ends.go) (by first | exact True.intro | omega | assumption | (simp; done) | (simp; omega) | (simp at *; omega)) ?_ | refine ewp_scope ?_ | refine scopeQ_normal ?_ | refine scopeQ_ret ?_ | refine scopeQ_exit ?_ | refine ewp_skip ?_ | refine ewp_block ?_ | refine ewp_exit ?_ | refine ewp_label ?_ | refine thenQ_normal ?_ | refine thenQ_ret ?_ | refine thenQ_exit ?_ | refine blockQ_normal ?_ | refine blockQ_ret ?_ | refine blockQ_here ?_ | refine blockQ_there (by decide) ?_ | refine ewp_ret ?_ | refine opsW_nil ?_ | refine quietW_nil ?_ | (refine run_cond (by simp; exact Gives.mk) (fun hb => ?_) (fun hb => ?_) <;> (try simp at hb)) | fail) | (first | refine run_callW hc (by simp; exact Gives.mk) (by simp; exact Gives.mk) (by simp; exact Gives.mk) (by simp; exact Gives.mk) (by simp; exact Gives.mk) (fun _ => by first | exact trivial) (by simp) (by simp) ?_ | refine run_callQ hc (by simp; exact Gives.mk) (by simp; exact Gives.mk) (by simp; exact Gives.mk) (by simp; exact Gives.mk) (by simp; exact Gives.mk) (fun _ => by first | exact trivial) (by simp) (by simp) ?_ | refine run_ops hc (by simp; first | exact Ends.go | exact Ends.halt) (by decide) (by first | exact True.intro | omega | assumption | (simp; done) | (simp; omega) | (simp at *; omega)) ?_ | refine run_quiet hc (by simp; first | exact Ends.go | exact Ends.halt) (by decide) (by first | exact True.intro | omega | assumption | (simp; done) | (simp; omega) | (simp at *; omega)) ?_ | refine run_regionW hc (by simp; exact Ends.halt) (by first | exact True.intro | omega | assumption | (simp; done) | (simp; omega) | (simp at *; omega)) ?_ | refine run_drawN hc (by kernel_rfl) (by decide) (by kernel_rfl) (by simp; exact Ends.halt) (by first | exact True.intro | omega | assumption | (simp; done) | (simp; omega) | (simp at *; omega)) ?_ | fail))
  all_goals rename_i hq
  all_goals (refine run_leave hc (by simp; exact Gives.mk) ?_)
  all_goals simp [behindA, qPart, fPart, hb, hq]
theorem behind_len (a : Adr) (hf : a.Fits) : (behindA a).length ≤ 422212465065984 + 2 := by
  obtain ⟨h1, h2, h3, h4, h5, h6⟩ := hf
  unfold behindA qPart fPart
  split <;> split <;> simp <;> omega
theorem write_ok (a : Adr) (hf : a.Fits) : FnOk Tryz.prog 41 [adrD a] (str (writeA a)) := by
  refine fnOk Tryz.func41 rfl (by kernel_rfl) Tryz.ntmps41 _ rfl (by simp) fun C hc => ?_
  have hB := behind_ok a hf
  have hl := behind_len a hf
  obtain ⟨h1, h2, h3, h4, h5, h6⟩ := hf
  repeat' (first | (first | refine ewp_seq ?_ | refine run_region hc (by simp; exact Ends.go) (by first | exact True.intro | omega | assumption | (simp; done) | (simp; omega) | (simp at *; omega)) ?_ | refine run_draw hc (by kernel_rfl) (by kernel_rfl) (by simp; exact Ends.go) (by first | exact True.intro | omega | assumption | (simp; done) | (simp; omega) | (simp at *; omega)) ?_ | refine ewp_scope ?_ | refine scopeQ_normal ?_ | refine scopeQ_ret ?_ | refine scopeQ_exit ?_ | refine ewp_skip ?_ | refine ewp_block ?_ | refine ewp_exit ?_ | refine ewp_label ?_ | refine thenQ_normal ?_ | refine thenQ_ret ?_ | refine thenQ_exit ?_ | refine blockQ_normal ?_ | refine blockQ_ret ?_ | refine blockQ_here ?_ | refine blockQ_there (by decide) ?_ | refine ewp_ret ?_ | refine opsW_nil ?_ | refine quietW_nil ?_ | (refine run_cond (by simp; exact Gives.mk) (fun hb => ?_) (fun hb => ?_) <;> (try simp at hb)) | fail) | (first | refine run_callW hc (by simp; exact Gives.mk) (by simp; exact Gives.mk) (by simp; exact Gives.mk) (by simp; exact Gives.mk) (by simp; exact Gives.mk) (fun _ => by first | exact hB) (by simp) (by simp) ?_ | refine run_callQ hc (by simp; exact Gives.mk) (by simp; exact Gives.mk) (by simp; exact Gives.mk) (by simp; exact Gives.mk) (by simp; exact Gives.mk) (fun _ => by first | exact hB) (by simp) (by simp) ?_ | refine run_ops hc (by simp; first | exact Ends.go | exact Ends.halt) (by decide) (by first | exact True.intro | omega | assumption | (simp; done) | (simp; omega) | (simp at *; omega)) ?_ | refine run_quiet hc (by simp; first | exact Ends.go | exact Ends.halt) (by decide) (by first | exact True.intro | omega | assumption | (simp; done) | (simp; omega) | (simp at *; omega)) ?_ | refine run_regionW hc (by simp; exact Ends.halt) (by first | exact True.intro | omega | assumption | (simp; done) | (simp; omega) | (simp at *; omega)) ?_ | refine run_drawN hc (by kernel_rfl) (by decide) (by kernel_rfl) (by simp; exact Ends.halt) (by first | exact True.intro | omega | assumption | (simp; done) | (simp; omega) | (simp at *; omega)) ?_ | fail))
  · (refine run_leave hc (by simp; exact Gives.mk) ?_)
    simp [writeA, pPart, hb]
  · (refine run_leave hc (by simp; exact Gives.mk) ?_)
    simp [writeA, pPart, hb]
/-! The check. -/
theorem okS_iff (s : Bs) : okS s ↔ (small s = [104, 116, 116, 112] ∨ small s = [104, 116, 116, 112, 115]) := Iff.rfl
theorem chk_S {a : Adr} (h : chkS a) : chkC a = 10 := by unfold chkC; rw [if_pos h]
theorem chk_R {a : Adr} (h0 : ¬ chkS a) (h : chkR a) : chkC a = 10 := by unfold chkC; rw [if_neg h0, if_pos h]
theorem chk_F {a : Adr} (h0 : ¬ chkS a) (h1 : ¬ chkR a) (h : chkF a) : chkC a = 3 := by unfold chkC; rw [if_neg h0, if_neg h1, if_pos h]
theorem chk_L {a : Adr} (h0 : ¬ chkS a) (h1 : ¬ chkR a) (h2 : ¬ chkF a) : chkC a = if 2000 < (writeA a).length then 2 else 0 := by unfold chkC; rw [if_neg h0, if_neg h1, if_neg h2]
theorem chk_nR {a : Adr} (k1 : (¬ a.path = [] → ((a.path[0]?.getD 0).toNat : Int) = 47) ∧ isRow [63] a.path) (k2 : isRow [] a.query) (k3 : isRow [] a.frag) : ¬ chkR a := by
  rintro (h | h | h | h)
  · have := k1.1 h.1; have := h.2; omega
  · exact h k1.2
  · exact h k2
  · exact h k3
theorem chk_nF {a : Adr} (k1 : ¬ a.query = [] → a.hasQ = true) (k2 : ¬ a.frag = [] → a.hasF = true) : ¬ chkF a := by
  rintro (h | h)
  · have := k1 h.1; rw [h.2] at this; cases this
  · have := k2 h.1; rw [h.2] at this; cases this
theorem check_ok (a : Adr) (hf : a.Fits) : FnOk Tryz.prog 19 [adrD a] (int (chkC a)) := by
  refine fnOk Tryz.func19 rfl (by kernel_rfl) Tryz.ntmps19 _ rfl (by simp) fun C hc => ?_
  have hW := write_ok a hf
  obtain ⟨h1, h2, h3, h4, h5, h6⟩ := hf
  have hSm := small_ok a.scheme (by omega)
  have hHo := isHost_ok a.host (by omega)
  have hPo := portOf_ok a.port (by omega)
  have hR1 := isRow_ok a.path [63] (by omega)
  have hR2 := isRow_ok a.query [] (by omega)
  have hR3 := isRow_ok a.frag [] (by omega)
  repeat' (first | (first | refine ewp_seq ?_ | refine run_region hc (by simp; exact Ends.go) (by first | exact True.intro | omega | assumption | (simp; done) | (simp; omega) | (simp at *; omega)) ?_ | refine run_draw hc (by kernel_rfl) (by kernel_rfl) (by simp; exact Ends.go) (by first | exact True.intro | omega | assumption | (simp; done) | (simp; omega) | (simp at *; omega)) ?_ | refine ewp_scope ?_ | refine scopeQ_normal ?_ | refine scopeQ_ret ?_ | refine scopeQ_exit ?_ | refine ewp_skip ?_ | refine ewp_block ?_ | refine ewp_exit ?_ | refine ewp_label ?_ | refine thenQ_normal ?_ | refine thenQ_ret ?_ | refine thenQ_exit ?_ | refine blockQ_normal ?_ | refine blockQ_ret ?_ | refine blockQ_here ?_ | refine blockQ_there (by decide) ?_ | refine ewp_ret ?_ | refine opsW_nil ?_ | refine quietW_nil ?_ | (refine run_cond (by simp; exact Gives.mk) (fun hb => ?_) (fun hb => ?_) <;> (try simp at hb)) | fail) | (first | refine run_callW hc (by simp; exact Gives.mk) (by simp; exact Gives.mk) (by simp; exact Gives.mk) (by simp; exact Gives.mk) (by simp; exact Gives.mk) (fun _ => by first | exact hSm | exact hHo | exact hPo) (by simp) (by simp) ?_ | refine run_callQ hc (by simp; exact Gives.mk) (by simp; exact Gives.mk) (by simp; exact Gives.mk) (by simp; exact Gives.mk) (by simp; exact Gives.mk) (fun _ => by first | exact hSm | exact hHo | exact hPo) (by simp) (by simp) ?_ | refine run_ops hc (by simp; first | exact Ends.go | exact Ends.halt) (by decide) (by first | exact True.intro | omega | assumption | (simp; done) | (simp; omega) | (simp at *; omega)) ?_ | refine run_quiet hc (by simp; first | exact Ends.go | exact Ends.halt) (by decide) (by first | exact True.intro | omega | assumption | (simp; done) | (simp; omega) | (simp at *; omega)) ?_ | refine run_regionW hc (by simp; exact Ends.halt) (by first | exact True.intro | omega | assumption | (simp; done) | (simp; omega) | (simp at *; omega)) ?_ | refine run_drawN hc (by kernel_rfl) (by decide) (by kernel_rfl) (by simp; exact Ends.halt) (by first | exact True.intro | omega | assumption | (simp; done) | (simp; omega) | (simp at *; omega)) ?_ | fail))
  all_goals try (exfalso; simp_all; done)
  all_goals skip
  · have e : chkC a = 10 := by unfold chkC; rw [if_pos (.inl (fun h => by rcases h with h | h; exact hb.1 h; exact hb.2 h))]
    rw [e]
    (refine run_leave hc (by simp; exact Gives.mk) ?_)
    simp
  · have e : chkC a = 10 := by unfold chkC; rw [if_pos (.inr (.inl hb))]
    rw [e]
    (refine run_leave hc (by simp; exact Gives.mk) ?_)
    simp
  · have e : chkC a = 10 := by unfold chkC; rw [if_pos (.inr (.inr hb))]
    rw [e]
    (refine run_leave hc (by simp; exact Gives.mk) ?_)
    simp
  have hS0 : ¬ chkS a := by
    rename_i k1 k2
    rintro (h | h | h)
    · exact h (by
        by_cases e : small a.scheme = [104, 116, 116, 112]
        · exact .inl e
        · exact .inr (k1 e))
    · rw [h] at k2; cases k2
    · exact hb h.1 h.2
  have hpl : ¬ a.path = [] → 0 < a.path.length := fun h => by
    cases e : a.path with
    | nil => exact absurd e h
    | cons c r => simp
  repeat' (first | (first | refine ewp_seq ?_ | refine run_region hc (by simp; exact Ends.go) (by first | exact True.intro | omega | assumption | (simp; done) | (simp; omega) | (simp at *; omega)) ?_ | refine run_draw hc (by kernel_rfl) (by kernel_rfl) (by simp; exact Ends.go) (by first | exact True.intro | omega | assumption | (simp; done) | (simp; omega) | (simp at *; omega)) ?_ | refine ewp_scope ?_ | refine scopeQ_normal ?_ | refine scopeQ_ret ?_ | refine scopeQ_exit ?_ | refine ewp_skip ?_ | refine ewp_block ?_ | refine ewp_exit ?_ | refine ewp_label ?_ | refine thenQ_normal ?_ | refine thenQ_ret ?_ | refine thenQ_exit ?_ | refine blockQ_normal ?_ | refine blockQ_ret ?_ | refine blockQ_here ?_ | refine blockQ_there (by decide) ?_ | refine ewp_ret ?_ | refine opsW_nil ?_ | refine quietW_nil ?_ | (refine run_cond (by simp; exact Gives.mk) (fun hb => ?_) (fun hb => ?_) <;> (try simp at hb)) | fail) | (first | refine run_callW hc (by simp; exact Gives.mk) (by simp; exact Gives.mk) (by simp; exact Gives.mk) (by simp; exact Gives.mk) (by simp; exact Gives.mk) (fun _ => by first | exact hR1 | exact hR2 | exact hR3 | exact hW) (by simp) (by simp) ?_ | refine run_callQ hc (by simp; exact Gives.mk) (by simp; exact Gives.mk) (by simp; exact Gives.mk) (by simp; exact Gives.mk) (by simp; exact Gives.mk) (fun _ => by first | exact hR1 | exact hR2 | exact hR3 | exact hW) (by simp) (by simp) ?_ | refine run_ops hc (by simp; first | exact Ends.go | exact Ends.halt) (by decide) (by first | exact True.intro | omega | assumption | (simp; done) | (simp; omega) | (simp at *; omega)) ?_ | refine run_quiet hc (by simp; first | exact Ends.go | exact Ends.halt) (by decide) (by first | exact True.intro | omega | assumption | (simp; done) | (simp; omega) | (simp at *; omega)) ?_ | refine run_regionW hc (by simp; exact Ends.halt) (by first | exact True.intro | omega | assumption | (simp; done) | (simp; omega) | (simp at *; omega)) ?_ | refine run_drawN hc (by kernel_rfl) (by decide) (by kernel_rfl) (by simp; exact Ends.halt) (by first | exact True.intro | omega | assumption | (simp; done) | (simp; omega) | (simp at *; omega)) ?_ | fail))
  all_goals try (exfalso; simp_all; done)
  · rw [chk_R hS0 (by
      rcases hb with h | h
      · exact .inl ⟨h.1, by omega⟩
      · exact .inr (.inl h))]
    (refine run_leave hc (by simp; exact Gives.mk) ?_)
    simp
  · rw [chk_R hS0 (.inr (.inr (.inl hb)))]
    (refine run_leave hc (by simp; exact Gives.mk) ?_)
    simp
  · rw [chk_R hS0 (.inr (.inr (.inr hb)))]
    (refine run_leave hc (by simp; exact Gives.mk) ?_)
    simp
  · rename_i k1 k2 k3 k4
    rw [chk_F hS0 (chk_nR k1 k2 k3) (.inl hb)]
    (refine run_leave hc (by simp; exact Gives.mk) ?_)
    simp
  · rename_i k1 k2 k3 k4
    rw [chk_F hS0 (chk_nR k1 k2 k3) (.inr hb)]
    (refine run_leave hc (by simp; exact Gives.mk) ?_)
    simp
  · rename_i k1 k2 k3 k4 k5
    rw [chk_L hS0 (chk_nR k1 k2 k3) (chk_nF k4 k5), if_pos (by omega)]
    (refine run_leave hc (by simp; exact Gives.mk) ?_)
    simp
  · rename_i k1 k2 k3 k4 k5
    rw [chk_L hS0 (chk_nR k1 k2 k3) (chk_nF k4 k5), if_neg (by omega)]
    (refine run_leave hc (by simp; exact Gives.mk) ?_)
    simp
def textC (a : Adr) : Bs × Nat := if chkC a = 0 then (writeA a, 0) else ([], chkC a)
theorem text_ok (a : Adr) (hf : a.Fits) : FnOk Tryz.prog 15 [adrD a] (.tup [str (textC a).1, int (textC a).2]) := by
  refine fnOk Tryz.func15 rfl (by kernel_rfl) Tryz.ntmps15 _ rfl (by simp) fun C hc => ?_
  have hW := write_ok a hf
  have hC := check_ok a hf
  unfold textC
  by_cases h : chkC a = 0
  · rw [if_pos h]
    rw [h] at hC
    repeat' (first | (first | refine ewp_seq ?_ | refine run_region hc (by simp; exact Ends.go) (by first | exact True.intro | omega | assumption | (simp; done) | (simp; omega) | (simp at *; omega)) ?_ | refine run_draw hc (by kernel_rfl) (by kernel_rfl) (by simp; exact Ends.go) (by first | exact True.intro | omega | assumption | (simp; done) | (simp; omega) | (simp at *; omega)) ?_ | refine ewp_scope ?_ | refine scopeQ_normal ?_ | refine scopeQ_ret ?_ | refine scopeQ_exit ?_ | refine ewp_skip ?_ | refine ewp_block ?_ | refine ewp_exit ?_ | refine ewp_label ?_ | refine thenQ_normal ?_ | refine thenQ_ret ?_ | refine thenQ_exit ?_ | refine blockQ_normal ?_ | refine blockQ_ret ?_ | refine blockQ_here ?_ | refine blockQ_there (by decide) ?_ | refine ewp_ret ?_ | refine opsW_nil ?_ | refine quietW_nil ?_ | (refine run_cond (by simp; exact Gives.mk) (fun hb => ?_) (fun hb => ?_) <;> (try simp at hb)) | fail) | (first | refine run_callW hc (by simp; exact Gives.mk) (by simp; exact Gives.mk) (by simp; exact Gives.mk) (by simp; exact Gives.mk) (by simp; exact Gives.mk) (fun _ => by first | exact hC | exact hW) (by simp) (by simp) ?_ | refine run_callQ hc (by simp; exact Gives.mk) (by simp; exact Gives.mk) (by simp; exact Gives.mk) (by simp; exact Gives.mk) (by simp; exact Gives.mk) (fun _ => by first | exact hC | exact hW) (by simp) (by simp) ?_ | refine run_ops hc (by simp; first | exact Ends.go | exact Ends.halt) (by decide) (by first | exact True.intro | omega | assumption | (simp; done) | (simp; omega) | (simp at *; omega)) ?_ | refine run_quiet hc (by simp; first | exact Ends.go | exact Ends.halt) (by decide) (by first | exact True.intro | omega | assumption | (simp; done) | (simp; omega) | (simp at *; omega)) ?_ | refine run_regionW hc (by simp; exact Ends.halt) (by first | exact True.intro | omega | assumption | (simp; done) | (simp; omega) | (simp at *; omega)) ?_ | refine run_drawN hc (by kernel_rfl) (by decide) (by kernel_rfl) (by simp; exact Ends.halt) (by first | exact True.intro | omega | assumption | (simp; done) | (simp; omega) | (simp at *; omega)) ?_ | fail))
    all_goals try contradiction
    (refine run_leave hc (by simp; exact Gives.mk) ?_)
    simp
  · rw [if_neg h]
    repeat' (first | (first | refine ewp_seq ?_ | refine run_region hc (by simp; exact Ends.go) (by first | exact True.intro | omega | assumption | (simp; done) | (simp; omega) | (simp at *; omega)) ?_ | refine run_draw hc (by kernel_rfl) (by kernel_rfl) (by simp; exact Ends.go) (by first | exact True.intro | omega | assumption | (simp; done) | (simp; omega) | (simp at *; omega)) ?_ | refine ewp_scope ?_ | refine scopeQ_normal ?_ | refine scopeQ_ret ?_ | refine scopeQ_exit ?_ | refine ewp_skip ?_ | refine ewp_block ?_ | refine ewp_exit ?_ | refine ewp_label ?_ | refine thenQ_normal ?_ | refine thenQ_ret ?_ | refine thenQ_exit ?_ | refine blockQ_normal ?_ | refine blockQ_ret ?_ | refine blockQ_here ?_ | refine blockQ_there (by decide) ?_ | refine ewp_ret ?_ | refine opsW_nil ?_ | refine quietW_nil ?_ | (refine run_cond (by simp; exact Gives.mk) (fun hb => ?_) (fun hb => ?_) <;> (try simp at hb)) | fail) | (first | refine run_callW hc (by simp; exact Gives.mk) (by simp; exact Gives.mk) (by simp; exact Gives.mk) (by simp; exact Gives.mk) (by simp; exact Gives.mk) (fun _ => by first | exact hC | exact hW) (by simp) (by simp) ?_ | refine run_callQ hc (by simp; exact Gives.mk) (by simp; exact Gives.mk) (by simp; exact Gives.mk) (by simp; exact Gives.mk) (by simp; exact Gives.mk) (fun _ => by first | exact hC | exact hW) (by simp) (by simp) ?_ | refine run_ops hc (by simp; first | exact Ends.go | exact Ends.halt) (by decide) (by first | exact True.intro | omega | assumption | (simp; done) | (simp; omega) | (simp at *; omega)) ?_ | refine run_quiet hc (by simp; first | exact Ends.go | exact Ends.halt) (by decide) (by first | exact True.intro | omega | assumption | (simp; done) | (simp; omega) | (simp at *; omega)) ?_ | refine run_regionW hc (by simp; exact Ends.halt) (by first | exact True.intro | omega | assumption | (simp; done) | (simp; omega) | (simp at *; omega)) ?_ | refine run_drawN hc (by kernel_rfl) (by decide) (by kernel_rfl) (by simp; exact Ends.halt) (by first | exact True.intro | omega | assumption | (simp; done) | (simp; omega) | (simp at *; omega)) ?_ | fail))
    · (refine run_leave hc (by simp; exact Gives.mk) ?_)
      simp
    · exact absurd hb h
end Go.Proofs.YtglonkenckigiaaGreatDoor
