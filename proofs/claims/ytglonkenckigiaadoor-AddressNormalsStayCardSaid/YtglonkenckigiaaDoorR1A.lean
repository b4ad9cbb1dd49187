/-
  CHAPTER 1's REFERENCE: bytes, labels, hosts. (WITH run_drawN.)
-/
import Derived.Test.YtglonkenckigiaaDoorAdW
set_option linter.unusedSimpArgs false
set_option linter.unusedVariables false
namespace Go.Proofs.YtglonkenckigiaaDoor
open Go.Lw Go.RowKit
set_option maxRecDepth 100000
set_option maxHeartbeats 1000000

theorem qSmall_ok (l : Bs) (hm : l.length ≤ 9223372036854775807) : FnOk Tryd.prog 6 [str l] (str (small l)) := by
  refine fnOk Tryd.func6 rfl (by kernel_rfl) Tryd.ntmps6 _ rfl (by simp) fun C hc => ?_
  repeat' (first | refine ewp_seq ?_ | refine run_region hc (by simp; exact Ends.go) (by first | exact True.intro | omega | assumption | (simp; done) | (simp; omega) | (simp at *; omega)) ?_ | refine run_draw hc (by kernel_rfl) (by kernel_rfl) (by simp; exact Ends.go) (by first | exact True.intro | omega | assumption | (simp; done) | (simp; omega) | (simp at *; omega)) ?_ | refine ewp_scope ?_ | refine scopeQ_normal ?_ | refine scopeQ_ret ?_ | refine scopeQ_exit ?_ | refine ewp_skip ?_ | refine ewp_block ?_ | refine ewp_exit ?_ | refine ewp_label ?_ | refine thenQ_normal ?_ | refine thenQ_ret ?_ | refine thenQ_exit ?_ | refine blockQ_normal ?_ | refine blockQ_ret ?_ | refine blockQ_here ?_ | refine blockQ_there (by decide) ?_ | refine ewp_ret ?_ | refine opsW_nil ?_ | refine quietW_nil ?_ | (refine run_cond (by simp; exact Gives.mk) (fun hb => ?_) (fun hb => ?_) <;> (try simp at hb)) | fail)
  refine ewp_loop (fun x : Nat × Bs => ⟨[(3, .os 6 x.2.length), (4, .d (int x.1))], [(6, .own 5 1 (false, [.lit (.int .u8 0)]) (x.2.map byteRow))]⟩) (fun x => x.1 ≤ l.length ∧ x.2 = part low l x.1) (fun x => l.length - x.1) (0, l) ⟨by simp, by simp [part]⟩ (run_keep [3, 4] [6] (by simp; exact Gives.mk) (by simp; exact Gives.mk)) ?_
  rintro ⟨j, m⟩ ⟨hj, hm1⟩
  simp only at hj hm1 ⊢
  have hml : m.length = l.length := by rw [hm1]; exact part_length low l j hj
  have ha : m[j]?.getD 0 = l[j]?.getD 0 := by rw [hm1]; exact part_at low l j hj
  repeat' (first | (first | refine ewp_seq ?_ | refine run_region hc (by simp; exact Ends.go) (by first | exact True.intro | omega | assumption | (simp; done) | (simp; omega) | (simp at *; omega)) ?_ | refine run_draw hc (by kernel_rfl) (by kernel_rfl) (by simp; exact Ends.go) (by first | exact True.intro | omega | assumption | (simp; done) | (simp; omega) | (simp at *; omega)) ?_ | refine ewp_scope ?_ | refine scopeQ_normal ?_ | refine scopeQ_ret ?_ | refine scopeQ_exit ?_ | refine ewp_skip ?_ | refine ewp_block ?_ | refine ewp_exit ?_ | refine ewp_label ?_ | refine thenQ_normal ?_ | refine thenQ_ret ?_ | refine thenQ_exit ?_ | refine blockQ_normal ?_ | refine blockQ_ret ?_ | refine blockQ_here ?_ | refine blockQ_there (by decide) ?_ | refine ewp_ret ?_ | refine opsW_nil ?_ | refine quietW_nil ?_ | (refine run_cond (by simp; exact Gives.mk) (fun hb => ?_) (fun hb => ?_) <;> (try simp at hb)) | fail) | (first | refine run_callW hc (by simp; exact Gives.mk) (by simp; exact Gives.mk) (by simp; exact Gives.mk) (by simp; exact Gives.mk) (by simp; exact Gives.mk) (fun _ => by first | exact trivial) (by simp) (by simp) ?_ | refine run_callQ hc (by simp; exact Gives.mk) (by simp; exact Gives.mk) (by simp; exact Gives.mk) (by simp; exact Gives.mk) (by simp; exact Gives.mk) (fun _ => by first | exact trivial) (by simp) (by simp) ?_ | refine run_ops hc (by simp; first | exact Ends.go | exact Ends.halt) (by decide) (by first | exact True.intro | omega | assumption | (simp; done) | (simp; omega) | (simp at *; omega)) ?_ | refine run_quiet hc (by simp; first | exact Ends.go | exact Ends.halt) (by decide) (by first | exact True.intro | omega | assumption | (simp; done) | (simp; omega) | (simp at *; omega)) ?_ | refine run_regionW hc (by simp; exact Ends.halt) (by first | exact True.intro | omega | assumption | (simp; done) | (simp; omega) | (simp at *; omega)) ?_ | refine run_drawN hc (by kernel_rfl) (by decide) (by kernel_rfl) (by simp; exact Ends.halt) (by first | exact True.intro | omega | assumption | (simp; done) | (simp; omega) | (simp at *; omega)) ?_ | fail))
  · refine ⟨(j + 1, m.set j (low (l[j]?.getD 0))), ⟨by simp; omega, ?_⟩, by simp; omega, run_back [3, 4] [6] (by simp; exact Gives.mk) (by simp; exact Gives.mk) (by rw [ha] at hb; have := low_up _ hb; simp [ha]; rw [show ((l[j]?.getD 0).toNat : Int) + 32 = ((low (l[j]?.getD 0)).toNat : Int) by omega])⟩
    simp only
    rw [hm1, part_set low l j (by omega)]
  · refine ⟨(j + 1, m), ⟨by simp; omega, ?_⟩, by simp; omega, run_back [3, 4] [6] (by simp; exact Gives.mk) (by simp; exact Gives.mk) (by simp)⟩
    simp only
    rw [hm1]
    refine part_same low l j (by omega) ?_
    rw [ha] at hb
    unfold low
    rw [if_neg]
    simp only [isUp, Bool.and_eq_true, decide_eq_true_eq]
    omega
  · (refine run_leave hc (by simp; exact Gives.mk) ?_)
    simp [hm1, part, small, List.take_of_length_le (show l.length ≤ j by omega), List.drop_of_length_le (show l.length ≤ j by omega)]
end Go.Proofs.YtglonkenckigiaaDoor
