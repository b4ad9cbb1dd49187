/-
  THE REFERENCE OF CHAPTER 3: bytes, names, comments, values. (WITH run_drawN.)
-/
import Derived.Test.YtgebkjngnfdeiaaPgTok
set_option linter.unusedSimpArgs false
set_option linter.unusedVariables false
namespace Go.Proofs.Ytgebkjngnfdeiaa
open Go.Lw
set_option maxRecDepth 100000
set_option maxHeartbeats 1000000

theorem low_up2 (c : UInt8) (h : 65 ≤ (c.toNat : Int) ∧ (c.toNat : Int) ≤ 90) : ((low c).toNat : Int) = c.toNat + 32 := by
  rw [low_toNat, if_pos (by simp [isUp]; omega)]
  omega
theorem rSmall_ok (l : Bs) (hm : l.length ≤ 9223372036854775807) : FnOk Try.prog 76 [str l] (str (small l)) := by
  refine fnOk Try.func76 rfl (by kernel_rfl) Try.ntmps76 _ rfl (by simp) fun C hc => ?_
  repeat' (first | refine ewp_seq ?_ | refine run_region hc (by simp; exact Ends.go) (by first | exact True.intro | omega | (simp; done) | (simp; omega) | (simp at *; omega)) ?_ | refine run_draw hc (by kernel_rfl) (by kernel_rfl) (by simp; exact Ends.go) (by first | exact True.intro | omega | (simp; done) | (simp; omega) | (simp at *; omega)) ?_ | refine ewp_scope ?_ | refine scopeQ_normal ?_ | refine scopeQ_ret ?_ | refine scopeQ_exit ?_ | refine ewp_skip ?_ | refine ewp_block ?_ | refine ewp_exit ?_ | refine ewp_label ?_ | refine thenQ_normal ?_ | refine thenQ_ret ?_ | refine thenQ_exit ?_ | refine blockQ_normal ?_ | refine blockQ_ret ?_ | refine blockQ_here ?_ | refine blockQ_there (by decide) ?_ | refine ewp_ret ?_ | refine opsW_nil ?_ | refine quietW_nil ?_ | (refine run_cond (by simp; exact Gives.mk) (fun hb => ?_) (fun hb => ?_) <;> (try simp at hb)) | fail)
  refine ewp_loop (fun x : Nat × Bs => ⟨[(3, .os 6 x.2.length), (4, .d (int x.1))], [(6, .own 5 1 (false, [.lit (.int .u8 0)]) (x.2.map byteRow))]⟩) (fun x => x.1 ≤ l.length ∧ x.2 = part low l x.1) (fun x => l.length - x.1) (0, l) ⟨by simp, by simp [part]⟩ (run_keep [3, 4] [6] (by simp; exact Gives.mk) (by simp; exact Gives.mk)) ?_
  rintro ⟨j, m⟩ ⟨hj, hm1⟩
  simp only at hj hm1 ⊢
  have hml : m.length = l.length := by rw [hm1]; exact part_length low l j hj
  have ha : m[j]?.getD 0 = l[j]?.getD 0 := by rw [hm1]; exact part_at low l j hj
  repeat' (first | refine ewp_seq ?_ | refine run_region hc (by simp; exact Ends.go) (by first | exact True.intro | omega | (simp; done) | (simp; omega) | (simp at *; omega)) ?_ | refine run_draw hc (by kernel_rfl) (by kernel_rfl) (by simp; exact Ends.go) (by first | exact True.intro | omega | (simp; done) | (simp; omega) | (simp at *; omega)) ?_ | refine ewp_scope ?_ | refine scopeQ_normal ?_ | refine scopeQ_ret ?_ | refine scopeQ_exit ?_ | refine ewp_skip ?_ | refine ewp_block ?_ | refine ewp_exit ?_ | refine ewp_label ?_ | refine thenQ_normal ?_ | refine thenQ_ret ?_ | refine thenQ_exit ?_ | refine blockQ_normal ?_ | refine blockQ_ret ?_ | refine blockQ_here ?_ | refine blockQ_there (by decide) ?_ | refine ewp_ret ?_ | refine opsW_nil ?_ | refine quietW_nil ?_ | (refine run_cond (by simp; exact Gives.mk) (fun hb => ?_) (fun hb => ?_) <;> (try simp at hb)) | fail)
  · refine ⟨(j + 1, m.set j (low (l[j]?.getD 0))), ⟨by simp; omega, ?_⟩, by simp; omega, run_back [3, 4] [6] (by simp; exact Gives.mk) (by simp; exact Gives.mk) (by rw [ha] at hb; simp [ha, low_up2 _ hb])⟩
    simp only
    rw [hm1, part_set low l j (by omega)]
  · refine ⟨(j + 1, m), ⟨by simp; omega, ?_⟩, by simp; omega, run_back [3, 4] [6] (by simp; exact Gives.mk) (by simp; exact Gives.mk) (by simp)⟩
    simp only
    rw [hm1]
    refine part_same low l j (by omega) ?_
    rw [ha] at hb
    unfold low isUp
    rw [if_neg (by simp; omega)]
  · (refine run_leave hc (by simp; exact Gives.mk) ?_)
    simp [hm1, part, small, List.take_of_length_le (show l.length ≤ j by omega), List.drop_of_length_le (show l.length ≤ j by omega)]
theorem rBlank_ok (c : UInt8) : FnOk Try.prog 46 [u8 c] (tru (isBl c)) := by
  refine fnOk Try.func46 rfl (by kernel_rfl) Try.ntmps46 _ rfl (by simp) fun C hc => ?_
  repeat' (first | refine ewp_seq ?_ | refine run_region hc (by simp; exact Ends.go) (by first | exact True.intro | omega | (simp; done) | (simp; omega) | (simp at *; omega)) ?_ | refine run_draw hc (by kernel_rfl) (by kernel_rfl) (by simp; exact Ends.go) (by first | exact True.intro | omega | (simp; done) | (simp; omega) | (simp at *; omega)) ?_ | refine ewp_scope ?_ | refine scopeQ_normal ?_ | refine scopeQ_ret ?_ | refine scopeQ_exit ?_ | refine ewp_skip ?_ | refine ewp_block ?_ | refine ewp_exit ?_ | refine ewp_label ?_ | refine thenQ_normal ?_ | refine thenQ_ret ?_ | refine thenQ_exit ?_ | refine blockQ_normal ?_ | refine blockQ_ret ?_ | refine blockQ_here ?_ | refine blockQ_there (by decide) ?_ | refine ewp_ret ?_ | refine opsW_nil ?_ | refine quietW_nil ?_ | (refine run_cond (by simp; exact Gives.mk) (fun hb => ?_) (fun hb => ?_) <;> (try simp at hb)) | fail)
  (refine run_leave hc (by simp; exact Gives.mk) ?_)
  refine res_bool ?_
  rw [Bool.eq_iff_iff]; simp [isBl]; omega
theorem rLetter_ok (c : UInt8) : FnOk Try.prog 88 [u8 c] (tru (isLet c)) := by
  refine fnOk Try.func88 rfl (by kernel_rfl) Try.ntmps88 _ rfl (by simp) fun C hc => ?_
  repeat' (first | refine ewp_seq ?_ | refine run_region hc (by simp; exact Ends.go) (by first | exact True.intro | omega | (simp; done) | (simp; omega) | (simp at *; omega)) ?_ | refine run_draw hc (by kernel_rfl) (by kernel_rfl) (by simp; exact Ends.go) (by first | exact True.intro | omega | (simp; done) | (simp; omega) | (simp at *; omega)) ?_ | refine ewp_scope ?_ | refine scopeQ_normal ?_ | refine scopeQ_ret ?_ | refine scopeQ_exit ?_ | refine ewp_skip ?_ | refine ewp_block ?_ | refine ewp_exit ?_ | refine ewp_label ?_ | refine thenQ_normal ?_ | refine thenQ_ret ?_ | refine thenQ_exit ?_ | refine blockQ_normal ?_ | refine blockQ_ret ?_ | refine blockQ_here ?_ | refine blockQ_there (by decide) ?_ | refine ewp_ret ?_ | refine opsW_nil ?_ | refine quietW_nil ?_ | (refine run_cond (by simp; exact Gives.mk) (fun hb => ?_) (fun hb => ?_) <;> (try simp at hb)) | fail)
  (refine run_leave hc (by simp; exact Gives.mk) ?_)
  refine res_bool ?_
  rw [Bool.eq_iff_iff]; simp [isLet, isLo, isUp]; omega
theorem rDigit_ok (c : UInt8) : FnOk Try.prog 94 [u8 c] (tru (isDig c)) := by
  refine fnOk Try.func94 rfl (by kernel_rfl) Try.ntmps94 _ rfl (by simp) fun C hc => ?_
  repeat' (first | refine ewp_seq ?_ | refine run_region hc (by simp; exact Ends.go) (by first | exact True.intro | omega | (simp; done) | (simp; omega) | (simp at *; omega)) ?_ | refine run_draw hc (by kernel_rfl) (by kernel_rfl) (by simp; exact Ends.go) (by first | exact True.intro | omega | (simp; done) | (simp; omega) | (simp at *; omega)) ?_ | refine ewp_scope ?_ | refine scopeQ_normal ?_ | refine scopeQ_ret ?_ | refine scopeQ_exit ?_ | refine ewp_skip ?_ | refine ewp_block ?_ | refine ewp_exit ?_ | refine ewp_label ?_ | refine thenQ_normal ?_ | refine thenQ_ret ?_ | refine thenQ_exit ?_ | refine blockQ_normal ?_ | refine blockQ_ret ?_ | refine blockQ_here ?_ | refine blockQ_there (by decide) ?_ | refine ewp_ret ?_ | refine opsW_nil ?_ | refine quietW_nil ?_ | (refine run_cond (by simp; exact Gives.mk) (fun hb => ?_) (fun hb => ?_) <;> (try simp at hb)) | fail)
  (refine run_leave hc (by simp; exact Gives.mk) ?_)
  refine res_bool ?_
  rw [Bool.eq_iff_iff]; simp [isDig]; omega
def inB (m : Bs) (c : UInt8) : Bool := isLet c || isDig c || m.contains c
theorem inB_tag : inB [45] = inTagB := by
  funext c
  simp [inB, inTagB, List.contains_cons, ← UInt8.toNat_inj]
theorem inB_name : inB [45, 95, 58] = inNameB := by
  funext c
  simp [inB, inNameB, inTagB, List.contains_cons, ← UInt8.toNat_inj, Bool.or_assoc]
theorem index_nonneg (l : Bs) (c : UInt8) : 0 ≤ Lib.indexByte l c ↔ l.contains c = true := by
  by_cases h : l.contains c = true
  · have hn : ¬ Lib.indexByte l c < 0 := fun hn => by rw [(index_neg l c).1 hn] at h; cases h
    exact ⟨fun _ => h, fun _ => by omega⟩
  · have hn := (index_neg l c).2 (Bool.eq_false_iff.2 h)
    exact ⟨fun _ => by omega, fun h' => absurd h' h⟩
theorem rName_ok (l m : Bs) (i : Nat) (hi : i ≤ 300000) (hm : l.length ≤ 200000) : FnOk Try.prog 86 [str l, int i, str m] (int (nm (inB m) l i)) := by
  refine fnOk Try.func86 rfl (by kernel_rfl) Try.ntmps86 _ rfl (by simp) fun C hc => ?_
  repeat' (first | (first | refine ewp_seq ?_ | refine run_region hc (by simp; exact Ends.go) (by first | exact True.intro | omega | (simp; done) | (simp; omega) | (simp at *; omega)) ?_ | refine run_draw hc (by kernel_rfl) (by kernel_rfl) (by simp; exact Ends.go) (by first | exact True.intro | omega | (simp; done) | (simp; omega) | (simp at *; omega)) ?_ | refine ewp_scope ?_ | refine scopeQ_normal ?_ | refine scopeQ_ret ?_ | refine scopeQ_exit ?_ | refine ewp_skip ?_ | refine ewp_block ?_ | refine ewp_exit ?_ | refine ewp_label ?_ | refine thenQ_normal ?_ | refine thenQ_ret ?_ | refine thenQ_exit ?_ | refine blockQ_normal ?_ | refine blockQ_ret ?_ | refine blockQ_here ?_ | refine blockQ_there (by decide) ?_ | refine ewp_ret ?_ | refine opsW_nil ?_ | refine quietW_nil ?_ | (refine run_cond (by simp; exact Gives.mk) (fun hb => ?_) (fun hb => ?_) <;> (try simp at hb)) | fail) | (first | refine run_callW hc (by simp; exact Gives.mk) (by simp; exact Gives.mk) (by simp; exact Gives.mk) (by simp; exact Gives.mk) (by simp; exact Gives.mk) (fun _ => by first | exact rLetter_ok _) (by simp) (by simp) ?_ | refine run_callQ hc (by simp; exact Gives.mk) (by simp; exact Gives.mk) (by simp; exact Gives.mk) (by simp; exact Gives.mk) (by simp; exact Gives.mk) (fun _ => by first | exact rLetter_ok _) (by simp) (by simp) ?_ | refine run_ops hc (by simp; first | exact Ends.go | exact Ends.halt) (by decide) (by first | exact True.intro | omega | (simp; done) | (simp; omega) | (simp at *; omega)) ?_ | refine run_quiet hc (by simp; first | exact Ends.go | exact Ends.halt) (by decide) (by first | exact True.intro | omega | (simp; done) | (simp; omega) | (simp at *; omega)) ?_ | refine run_regionW hc (by simp; exact Ends.halt) (by first | exact True.intro | omega | (simp; done) | (simp; omega) | (simp at *; omega)) ?_ | refine run_drawN hc (by kernel_rfl) (by decide) (by kernel_rfl) (by simp; exact Ends.halt) (by first | exact True.intro | omega | (simp; done) | (simp; omega) | (simp at *; omega)) ?_ | fail))
  · have e : nm (inB m) l i = i := by
      unfold nm
      rw [if_neg]
      rintro ⟨h1, h2⟩
      rcases hb with h | h
      · omega
      · rw [h] at h2; cases h2
    rw [e]
    (refine run_leave hc (by simp; exact Gives.mk) ?_)
    simp
  rw [show nm (inB m) l i = skip (inB m) l i by unfold nm; rw [if_pos hb]]
  have hlt : i < l.length := hb.1
  refine ewp_loop (fun j : Nat => ⟨[(0, .d (str l)), (1, .d (int j)), (2, .d (str m))], []⟩) (fun j => i ≤ j ∧ j ≤ l.length ∧ skip (inB m) l j = skip (inB m) l i) (fun j => l.length - j) i (by simp; omega) (run_keep [0, 1, 2] [] (by simp; exact Gives.mk) (by simp; exact Gives.mk)) ?_
  rintro j ⟨h1, h2, h3⟩
  have hs := fun h => skip_step (inB m) l j h
  have he := fun h => skip_end (inB m) l j h
  have hx := index_nonneg m (l[j]?.getD 0)
  have hp : inB m (l[j]?.getD 0) = true ↔ (isLet (l[j]?.getD 0) = true ∨ isDig (l[j]?.getD 0) = true) ∨ 0 ≤ Lib.indexByte m (l[j]?.getD 0) := by
    rw [hx]; simp [inB]
  repeat' (first | (first | refine ewp_seq ?_ | refine run_region hc (by simp; exact Ends.go) (by first | exact True.intro | omega | (simp; done) | (simp; omega) | (simp at *; omega)) ?_ | refine run_draw hc (by kernel_rfl) (by kernel_rfl) (by simp; exact Ends.go) (by first | exact True.intro | omega | (simp; done) | (simp; omega) | (simp at *; omega)) ?_ | refine ewp_scope ?_ | refine scopeQ_normal ?_ | refine scopeQ_ret ?_ | refine scopeQ_exit ?_ | refine ewp_skip ?_ | refine ewp_block ?_ | refine ewp_exit ?_ | refine ewp_label ?_ | refine thenQ_normal ?_ | refine thenQ_ret ?_ | refine thenQ_exit ?_ | refine blockQ_normal ?_ | refine blockQ_ret ?_ | refine blockQ_here ?_ | refine blockQ_there (by decide) ?_ | refine ewp_ret ?_ | refine opsW_nil ?_ | refine quietW_nil ?_ | (refine run_cond (by simp; exact Gives.mk) (fun hb => ?_) (fun hb => ?_) <;> (try simp at hb)) | fail) | (first | refine run_callW hc (by simp; exact Gives.mk) (by simp; exact Gives.mk) (by simp; exact Gives.mk) (by simp; exact Gives.mk) (by simp; exact Gives.mk) (fun _ => by first | exact rLetter_ok _ | exact rDigit_ok _ | exact indexByte_ok m _) (by simp) (by simp) ?_ | refine run_callQ hc (by simp; exact Gives.mk) (by simp; exact Gives.mk) (by simp; exact Gives.mk) (by simp; exact Gives.mk) (by simp; exact Gives.mk) (fun _ => by first | exact rLetter_ok _ | exact rDigit_ok _ | exact indexByte_ok m _) (by simp) (by simp) ?_ | refine run_ops hc (by simp; first | exact Ends.go | exact Ends.halt) (by decide) (by first | exact True.intro | omega | (simp; done) | (simp; omega) | (simp at *; omega)) ?_ | refine run_quiet hc (by simp; first | exact Ends.go | exact Ends.halt) (by decide) (by first | exact True.intro | omega | (simp; done) | (simp; omega) | (simp at *; omega)) ?_ | refine run_regionW hc (by simp; exact Ends.halt) (by first | exact True.intro | omega | (simp; done) | (simp; omega) | (simp at *; omega)) ?_ | refine run_drawN hc (by kernel_rfl) (by decide) (by kernel_rfl) (by simp; exact Ends.halt) (by first | exact True.intro | omega | (simp; done) | (simp; omega) | (simp at *; omega)) ?_ | fail))
  · have hq : inB m (l[j]?.getD 0) = true := hp.2 (by simpa [or_assoc] using hb.2)
    refine ⟨j + 1, ⟨by omega, by omega, ?_⟩, by omega, run_back [0, 1, 2] [] (by simp; exact Gives.mk) (by simp; exact Gives.mk) (by simp)⟩
    rw [← h3, hs hb.1, if_pos hq]
  · have e : skip (inB m) l i = j := by
      rw [← h3]
      by_cases hj : j < l.length
      · rw [hs hj, if_neg (fun hq => by
          have h5 := hb hj
          rw [hp] at hq
          rcases hq with (h | h) | h
          · exact absurd (h.symm.trans h5.1.1) (by decide)
          · exact absurd (h.symm.trans h5.1.2) (by decide)
          · have := h5.2; omega)]
      · exact he (by omega)
    rw [e]
    (refine run_leave hc (by simp; exact Gives.mk) ?_)
    simp
theorem rBlanks_ok (l : Bs) (i : Nat) (hi : i ≤ 300000) (hm : l.length ≤ 200000) : FnOk Try.prog 87 [str l, int i] (int (skip isBl l i)) := by
  refine fnOk Try.func87 rfl (by kernel_rfl) Try.ntmps87 _ rfl (by simp) fun C hc => ?_
  repeat' (first | refine ewp_seq ?_ | refine run_region hc (by simp; exact Ends.go) (by first | exact True.intro | omega | (simp; done) | (simp; omega) | (simp at *; omega)) ?_ | refine run_draw hc (by kernel_rfl) (by kernel_rfl) (by simp; exact Ends.go) (by first | exact True.intro | omega | (simp; done) | (simp; omega) | (simp at *; omega)) ?_ | refine ewp_scope ?_ | refine scopeQ_normal ?_ | refine scopeQ_ret ?_ | refine scopeQ_exit ?_ | refine ewp_skip ?_ | refine ewp_block ?_ | refine ewp_exit ?_ | refine ewp_label ?_ | refine thenQ_normal ?_ | refine thenQ_ret ?_ | refine thenQ_exit ?_ | refine blockQ_normal ?_ | refine blockQ_ret ?_ | refine blockQ_here ?_ | refine blockQ_there (by decide) ?_ | refine ewp_ret ?_ | refine opsW_nil ?_ | refine quietW_nil ?_ | (refine run_cond (by simp; exact Gives.mk) (fun hb => ?_) (fun hb => ?_) <;> (try simp at hb)) | fail)
  refine ewp_loop (fun j : Nat => ⟨[(0, .d (str l)), (1, .d (int j))], []⟩) (fun j => i ≤ j ∧ (j ≤ l.length ∨ j = i) ∧ skip isBl l j = skip isBl l i) (fun j => l.length - j) i (by simp) (run_keep [0, 1] [] (by simp; exact Gives.mk) (by simp; exact Gives.mk)) ?_
  rintro j ⟨h1, h2, h3⟩
  have hs := fun h => skip_step isBl l j h
  have he := fun h => skip_end isBl l j h
  repeat' (first | (first | refine ewp_seq ?_ | refine run_region hc (by simp; exact Ends.go) (by first | exact True.intro | omega | (simp; done) | (simp; omega) | (simp at *; omega)) ?_ | refine run_draw hc (by kernel_rfl) (by kernel_rfl) (by simp; exact Ends.go) (by first | exact True.intro | omega | (simp; done) | (simp; omega) | (simp at *; omega)) ?_ | refine ewp_scope ?_ | refine scopeQ_normal ?_ | refine scopeQ_ret ?_ | refine scopeQ_exit ?_ | refine ewp_skip ?_ | refine ewp_block ?_ | refine ewp_exit ?_ | refine ewp_label ?_ | refine thenQ_normal ?_ | refine thenQ_ret ?_ | refine thenQ_exit ?_ | refine blockQ_normal ?_ | refine blockQ_ret ?_ | refine blockQ_here ?_ | refine blockQ_there (by decide) ?_ | refine ewp_ret ?_ | refine opsW_nil ?_ | refine quietW_nil ?_ | (refine run_cond (by simp; exact Gives.mk) (fun hb => ?_) (fun hb => ?_) <;> (try simp at hb)) | fail) | (first | refine run_callW hc (by simp; exact Gives.mk) (by simp; exact Gives.mk) (by simp; exact Gives.mk) (by simp; exact Gives.mk) (by simp; exact Gives.mk) (fun _ => by first | exact rBlank_ok _) (by simp) (by simp) ?_ | refine run_callQ hc (by simp; exact Gives.mk) (by simp; exact Gives.mk) (by simp; exact Gives.mk) (by simp; exact Gives.mk) (by simp; exact Gives.mk) (fun _ => by first | exact rBlank_ok _) (by simp) (by simp) ?_ | refine run_ops hc (by simp; first | exact Ends.go | exact Ends.halt) (by decide) (by first | exact True.intro | omega | (simp; done) | (simp; omega) | (simp at *; omega)) ?_ | refine run_quiet hc (by simp; first | exact Ends.go | exact Ends.halt) (by decide) (by first | exact True.intro | omega | (simp; done) | (simp; omega) | (simp at *; omega)) ?_ | refine run_regionW hc (by simp; exact Ends.halt) (by first | exact True.intro | omega | (simp; done) | (simp; omega) | (simp at *; omega)) ?_ | refine run_drawN hc (by kernel_rfl) (by decide) (by kernel_rfl) (by simp; exact Ends.halt) (by first | exact True.intro | omega | (simp; done) | (simp; omega) | (simp at *; omega)) ?_ | fail))
  · refine ⟨j + 1, ⟨by omega, by omega, ?_⟩, by omega, run_back [0, 1] [] (by simp; exact Gives.mk) (by simp; exact Gives.mk) (by simp)⟩
    rw [← h3, hs hb.1, if_pos hb.2]
  · have e : skip isBl l i = j := by
      rw [← h3]
      by_cases hj : j < l.length
      · rw [hs hj, if_neg (by rw [hb hj]; decide)]
      · exact he (by omega)
    rw [e]
    (refine run_leave hc (by simp; exact Gives.mk) ?_)
    simp
theorem stands_ok (l : Bs) (c : UInt8) (p : Bs) (i : Nat) (hi : i ≤ 500000) (hm : l.length ≤ 200000) : FnOk Try.prog 47 [str l, int i, str (c :: p)] (tru ((c :: p).isPrefixOf (l.drop i))) := by
  refine fnOk Try.func47 rfl (by kernel_rfl) Try.ntmps47 _ rfl (by simp) fun C hc => ?_
  repeat' (first | (first | refine ewp_seq ?_ | refine run_region hc (by simp; exact Ends.go) (by first | exact True.intro | omega | (simp; done) | (simp; omega) | (simp at *; omega)) ?_ | refine run_draw hc (by kernel_rfl) (by kernel_rfl) (by simp; exact Ends.go) (by first | exact True.intro | omega | (simp; done) | (simp; omega) | (simp at *; omega)) ?_ | refine ewp_scope ?_ | refine scopeQ_normal ?_ | refine scopeQ_ret ?_ | refine scopeQ_exit ?_ | refine ewp_skip ?_ | refine ewp_block ?_ | refine ewp_exit ?_ | refine ewp_label ?_ | refine thenQ_normal ?_ | refine thenQ_ret ?_ | refine thenQ_exit ?_ | refine blockQ_normal ?_ | refine blockQ_ret ?_ | refine blockQ_here ?_ | refine blockQ_there (by decide) ?_ | refine ewp_ret ?_ | refine opsW_nil ?_ | refine quietW_nil ?_ | (refine run_cond (by simp; exact Gives.mk) (fun hb => ?_) (fun hb => ?_) <;> (try simp at hb)) | fail) | (first | refine run_callW hc (by simp; exact Gives.mk) (by simp; exact Gives.mk) (by simp; exact Gives.mk) (by simp; exact Gives.mk) (by simp; exact Gives.mk) (fun _ => by first | exact hasPrefix_ok _ _) (by simp) (by simp) ?_ | refine run_callQ hc (by simp; exact Gives.mk) (by simp; exact Gives.mk) (by simp; exact Gives.mk) (by simp; exact Gives.mk) (by simp; exact Gives.mk) (fun _ => by first | exact hasPrefix_ok _ _) (by simp) (by simp) ?_ | refine run_ops hc (by simp; first | exact Ends.go | exact Ends.halt) (by decide) (by first | exact True.intro | omega | (simp; done) | (simp; omega) | (simp at *; omega)) ?_ | refine run_quiet hc (by simp; first | exact Ends.go | exact Ends.halt) (by decide) (by first | exact True.intro | omega | (simp; done) | (simp; omega) | (simp at *; omega)) ?_ | refine run_regionW hc (by simp; exact Ends.halt) (by first | exact True.intro | omega | (simp; done) | (simp; omega) | (simp at *; omega)) ?_ | refine run_drawN hc (by kernel_rfl) (by decide) (by kernel_rfl) (by simp; exact Ends.halt) (by first | exact True.intro | omega | (simp; done) | (simp; omega) | (simp at *; omega)) ?_ | fail))
  (refine run_leave hc (by simp; exact Gives.mk) ?_)
  refine res_bool ?_
  by_cases h : i ≤ l.length
  · simp [h]
  · rw [List.drop_of_length_le (by omega)]
    simp [h]
theorem rComment_ok (l : Bs) (i : Nat) (hi : i ≤ l.length) (hm : l.length ≤ 200000) : FnOk Try.prog 73 [str l, int i] (int (match cmt l i with | some j => (j : Int) | none => -1)) := by
  refine fnOk Try.func73 rfl (by kernel_rfl) Try.ntmps73 _ rfl (by simp) fun C hc => ?_
  have hg := Lib.index_ge (l.drop (i + 4)) [45, 45, 62]
  have hr := Lib.index_room (l.drop (i + 4)) [45, 45, 62]
  have hh := stands_ok l 60 [33, 45, 45] i (by omega) hm
  by_cases h1 : [60, 33, 45, 45].isPrefixOf (l.drop i) = true
  · have hl := pre_len hi h1
    simp only [List.length_drop, List.length_cons, List.length_nil] at hr hl
    have hx := index_ok (l.drop (i + 4)) [45, 45, 62] (by simp; omega)
    rw [h1] at hh
    repeat' (first | (first | refine ewp_seq ?_ | refine run_region hc (by simp; exact Ends.go) (by first | exact True.intro | omega | (simp; done) | (simp; omega) | (simp at *; omega)) ?_ | refine run_draw hc (by kernel_rfl) (by kernel_rfl) (by simp; exact Ends.go) (by first | exact True.intro | omega | (simp; done) | (simp; omega) | (simp at *; omega)) ?_ | refine ewp_scope ?_ | refine scopeQ_normal ?_ | refine scopeQ_ret ?_ | refine scopeQ_exit ?_ | refine ewp_skip ?_ | refine ewp_block ?_ | refine ewp_exit ?_ | refine ewp_label ?_ | refine thenQ_normal ?_ | refine thenQ_ret ?_ | refine thenQ_exit ?_ | refine blockQ_normal ?_ | refine blockQ_ret ?_ | refine blockQ_here ?_ | refine blockQ_there (by decide) ?_ | refine ewp_ret ?_ | refine opsW_nil ?_ | refine quietW_nil ?_ | (refine run_cond (by simp; exact Gives.mk) (fun hb => ?_) (fun hb => ?_) <;> (try simp at hb)) | fail) | (first | refine run_callW hc (by simp; exact Gives.mk) (by simp; exact Gives.mk) (by simp; exact Gives.mk) (by simp; exact Gives.mk) (by simp; exact Gives.mk) (fun _ => by first | exact hh | exact hx) (by simp) (by simp) ?_ | refine run_callQ hc (by simp; exact Gives.mk) (by simp; exact Gives.mk) (by simp; exact Gives.mk) (by simp; exact Gives.mk) (by simp; exact Gives.mk) (fun _ => by first | exact hh | exact hx) (by simp) (by simp) ?_ | refine run_ops hc (by simp; first | exact Ends.go | exact Ends.halt) (by decide) (by first | exact True.intro | omega | (simp; done) | (simp; omega) | (simp at *; omega)) ?_ | refine run_quiet hc (by simp; first | exact Ends.go | exact Ends.halt) (by decide) (by first | exact True.intro | omega | (simp; done) | (simp; omega) | (simp at *; omega)) ?_ | refine run_regionW hc (by simp; exact Ends.halt) (by first | exact True.intro | omega | (simp; done) | (simp; omega) | (simp at *; omega)) ?_ | refine run_drawN hc (by kernel_rfl) (by decide) (by kernel_rfl) (by simp; exact Ends.halt) (by first | exact True.intro | omega | (simp; done) | (simp; omega) | (simp at *; omega)) ?_ | fail))
    · have e : cmt l i = none := by unfold cmt; rw [if_neg (fun h => by omega)]
      rw [e]
      (refine run_leave hc (by simp; exact Gives.mk) ?_)
      simp
    · have e : cmt l i = some (i + 7 + (Lib.index (l.drop (i + 4)) [45, 45, 62]).toNat) := by unfold cmt; rw [if_pos ⟨h1, by omega⟩]
      rw [e]
      (refine run_leave hc (by simp; exact Gives.mk) ?_)
      simp; omega
  · have e : cmt l i = none := by unfold cmt; rw [if_neg (fun h => h1 h.1)]
    rw [Bool.eq_false_iff.2 h1] at hh
    rw [e]
    repeat' (first | (first | refine ewp_seq ?_ | refine run_region hc (by simp; exact Ends.go) (by first | exact True.intro | omega | (simp; done) | (simp; omega) | (simp at *; omega)) ?_ | refine run_draw hc (by kernel_rfl) (by kernel_rfl) (by simp; exact Ends.go) (by first | exact True.intro | omega | (simp; done) | (simp; omega) | (simp at *; omega)) ?_ | refine ewp_scope ?_ | refine scopeQ_normal ?_ | refine scopeQ_ret ?_ | refine scopeQ_exit ?_ | refine ewp_skip ?_ | refine ewp_block ?_ | refine ewp_exit ?_ | refine ewp_label ?_ | refine thenQ_normal ?_ | refine thenQ_ret ?_ | refine thenQ_exit ?_ | refine blockQ_normal ?_ | refine blockQ_ret ?_ | refine blockQ_here ?_ | refine blockQ_there (by decide) ?_ | refine ewp_ret ?_ | refine opsW_nil ?_ | refine quietW_nil ?_ | (refine run_cond (by simp; exact Gives.mk) (fun hb => ?_) (fun hb => ?_) <;> (try simp at hb)) | fail) | (first | refine run_callW hc (by simp; exact Gives.mk) (by simp; exact Gives.mk) (by simp; exact Gives.mk) (by simp; exact Gives.mk) (by simp; exact Gives.mk) (fun _ => by first | exact hh) (by simp) (by simp) ?_ | refine run_callQ hc (by simp; exact Gives.mk) (by simp; exact Gives.mk) (by simp; exact Gives.mk) (by simp; exact Gives.mk) (by simp; exact Gives.mk) (fun _ => by first | exact hh) (by simp) (by simp) ?_ | refine run_ops hc (by simp; first | exact Ends.go | exact Ends.halt) (by decide) (by first | exact True.intro | omega | (simp; done) | (simp; omega) | (simp at *; omega)) ?_ | refine run_quiet hc (by simp; first | exact Ends.go | exact Ends.halt) (by decide) (by first | exact True.intro | omega | (simp; done) | (simp; omega) | (simp at *; omega)) ?_ | refine run_regionW hc (by simp; exact Ends.halt) (by first | exact True.intro | omega | (simp; done) | (simp; omega) | (simp at *; omega)) ?_ | refine run_drawN hc (by kernel_rfl) (by decide) (by kernel_rfl) (by simp; exact Ends.halt) (by first | exact True.intro | omega | (simp; done) | (simp; omega) | (simp at *; omega)) ?_ | fail))
    all_goals try contradiction
    (refine run_leave hc (by simp; exact Gives.mk) ?_)
    simp
theorem plainByte_ok (c : UInt8) : FnOk Try.prog 98 [u8 c] (tru (inValB c)) := by
  refine fnOk Try.func98 rfl (by kernel_rfl) Try.ntmps98 _ rfl (by simp) fun C hc => ?_
  repeat' (first | (first | refine ewp_seq ?_ | refine run_region hc (by simp; exact Ends.go) (by first | exact True.intro | omega | (simp; done) | (simp; omega) | (simp at *; omega)) ?_ | refine run_draw hc (by kernel_rfl) (by kernel_rfl) (by simp; exact Ends.go) (by first | exact True.intro | omega | (simp; done) | (simp; omega) | (simp at *; omega)) ?_ | refine ewp_scope ?_ | refine scopeQ_normal ?_ | refine scopeQ_ret ?_ | refine scopeQ_exit ?_ | refine ewp_skip ?_ | refine ewp_block ?_ | refine ewp_exit ?_ | refine ewp_label ?_ | refine thenQ_normal ?_ | refine thenQ_ret ?_ | refine thenQ_exit ?_ | refine blockQ_normal ?_ | refine blockQ_ret ?_ | refine blockQ_here ?_ | refine blockQ_there (by decide) ?_ | refine ewp_ret ?_ | refine opsW_nil ?_ | refine quietW_nil ?_ | (refine run_cond (by simp; exact Gives.mk) (fun hb => ?_) (fun hb => ?_) <;> (try simp at hb)) | fail) | (first | refine run_callW hc (by simp; exact Gives.mk) (by simp; exact Gives.mk) (by simp; exact Gives.mk) (by simp; exact Gives.mk) (by simp; exact Gives.mk) (fun _ => by first | exact rBlank_ok _ | exact indexByte_ok [34, 39, 61, 60, 62] _) (by simp) (by simp) ?_ | refine run_callQ hc (by simp; exact Gives.mk) (by simp; exact Gives.mk) (by simp; exact Gives.mk) (by simp; exact Gives.mk) (by simp; exact Gives.mk) (fun _ => by first | exact rBlank_ok _ | exact indexByte_ok [34, 39, 61, 60, 62] _) (by simp) (by simp) ?_ | refine run_ops hc (by simp; first | exact Ends.go | exact Ends.halt) (by decide) (by first | exact True.intro | omega | (simp; done) | (simp; omega) | (simp at *; omega)) ?_ | refine run_quiet hc (by simp; first | exact Ends.go | exact Ends.halt) (by decide) (by first | exact True.intro | omega | (simp; done) | (simp; omega) | (simp at *; omega)) ?_ | refine run_regionW hc (by simp; exact Ends.halt) (by first | exact True.intro | omega | (simp; done) | (simp; omega) | (simp at *; omega)) ?_ | refine run_drawN hc (by kernel_rfl) (by decide) (by kernel_rfl) (by simp; exact Ends.halt) (by first | exact True.intro | omega | (simp; done) | (simp; omega) | (simp at *; omega)) ?_ | fail))
  (refine run_leave hc (by simp; exact Gives.mk) ?_)
  refine res_bool ?_
  have := index_neg [34, 39, 61, 60, 62] c
  rw [Bool.eq_iff_iff]; cases h : isBl c <;> simp [inValB, quotes, h, this, ← UInt8.toNat_inj, List.contains_cons, and_assoc] <;> omega

/-! A value. -/
theorem skip_at {p : UInt8 → Bool} {l : Bs} {i : Nat} : ∀ {k : Nat}, i ≤ k → k < skip p l i → k < l.length ∧ p (l[k]?.getD 0) = true := by
  intro k h1 h2
  by_cases hi : i < l.length
  rotate_left
  · rw [skip_end p l i (by omega)] at h2; omega
  rw [skip_step p l i hi] at h2
  split at h2
  · rename_i hp
    by_cases hk : k = i
    · subst hk; exact ⟨hi, hp⟩
    · exact skip_at (i := i + 1) (by omega) h2
  · omega
termination_by l.length - i
theorem skip_stop {p : UInt8 → Bool} {l : Bs} {i : Nat} (h : skip p l i < l.length) : p (l[skip p l i]?.getD 0) = false := by
  by_cases hi : i < l.length
  rotate_left
  · rw [skip_end p l i (by omega)] at h; omega
  rw [skip_step p l i hi] at h ⊢
  split
  · rename_i hp
    rw [if_pos hp] at h
    exact skip_stop h
  · rename_i hp
    simpa using hp
termination_by l.length - i
theorem pre_two (c d : UInt8) (l : Bs) (i : Nat) : [c, d].isPrefixOf (l.drop i) = true ↔ l[i]? = some c ∧ l[i + 1]? = some d := by
  have h1 := pre_one c l i
  have h2 := pre_one d l (i + 1)
  by_cases h : i < l.length
  · rw [List.drop_eq_getElem_cons h] at h1 ⊢
    have e : [c, d].isPrefixOf (l[i] :: l.drop (i + 1)) = ([c].isPrefixOf (l[i] :: l.drop (i + 1)) && [d].isPrefixOf (l.drop (i + 1))) := by
      simp [List.isPrefixOf]
    rw [e, h1, h2]
    simp
  · rw [List.drop_of_length_le (by omega), List.getElem?_eq_none (by omega)]
    simp [List.isPrefixOf]
theorem rValue_ok (l : Bs) (i : Nat) (hi : i ≤ l.length) (hm : l.length ≤ 200000) : FnOk Try.prog 95 [str l, int i] (.tup [.agg [int (val l i).1.1, int (val l i).1.2], int (val l i).2.2, tru (val l i).2.1]) := by
  refine fnOk Try.func95 rfl (by kernel_rfl) Try.ntmps95 _ rfl (by simp) fun C hc => ?_
  have key : ∀ c : UInt8, l[i]? = some c ↔ i < l.length ∧ ((l[i]?.getD 0).toNat : Int) = c.toNat := by
    intro c
    by_cases h : i < l.length
    · rw [List.getElem?_eq_getElem h]
      simp only [Option.some.injEq, Option.getD_some, h, true_and]
      exact ⟨fun e => by rw [e], fun e => UInt8.toNat_inj.1 (by omega)⟩
    · simp [h]
  repeat' (first | (first | refine ewp_seq ?_ | refine run_region hc (by simp; exact Ends.go) (by first | exact True.intro | omega | (simp; done) | (simp; omega) | (simp at *; omega)) ?_ | refine run_draw hc (by kernel_rfl) (by kernel_rfl) (by simp; exact Ends.go) (by first | exact True.intro | omega | (simp; done) | (simp; omega) | (simp at *; omega)) ?_ | refine ewp_scope ?_ | refine scopeQ_normal ?_ | refine scopeQ_ret ?_ | refine scopeQ_exit ?_ | refine ewp_skip ?_ | refine ewp_block ?_ | refine ewp_exit ?_ | refine ewp_label ?_ | refine thenQ_normal ?_ | refine thenQ_ret ?_ | refine thenQ_exit ?_ | refine blockQ_normal ?_ | refine blockQ_ret ?_ | refine blockQ_here ?_ | refine blockQ_there (by decide) ?_ | refine ewp_ret ?_ | refine opsW_nil ?_ | refine quietW_nil ?_ | (refine run_cond (by simp; exact Gives.mk) (fun hb => ?_) (fun hb => ?_) <;> (try simp at hb)) | fail) | (first | refine run_callW hc (by simp; exact Gives.mk) (by simp; exact Gives.mk) (by simp; exact Gives.mk) (by simp; exact Gives.mk) (by simp; exact Gives.mk) (fun _ => by first | exact trivial) (by simp) (by simp) ?_ | refine run_callQ hc (by simp; exact Gives.mk) (by simp; exact Gives.mk) (by simp; exact Gives.mk) (by simp; exact Gives.mk) (by simp; exact Gives.mk) (fun _ => by first | exact trivial) (by simp) (by simp) ?_ | refine run_ops hc (by simp; first | exact Ends.go | exact Ends.halt) (by decide) (by first | exact True.intro | omega | (simp; done) | (simp; omega) | (simp at *; omega)) ?_ | refine run_quiet hc (by simp; first | exact Ends.go | exact Ends.halt) (by decide) (by first | exact True.intro | omega | (simp; done) | (simp; omega) | (simp at *; omega)) ?_ | refine run_regionW hc (by simp; exact Ends.halt) (by first | exact True.intro | omega | (simp; done) | (simp; omega) | (simp at *; omega)) ?_ | refine run_drawN hc (by kernel_rfl) (by decide) (by kernel_rfl) (by simp; exact Ends.halt) (by first | exact True.intro | omega | (simp; done) | (simp; omega) | (simp at *; omega)) ?_ | fail))
  · have hq : l[i]? = some 34 ∨ l[i]? = some 39 := by rw [key, key]; simp; omega
    have hlt : i < l.length := hb.1
    unfold val
    rw [if_pos hq]
    have hx := indexByte_ok (l.drop (i + 1)) (l[i]?.getD 0)
    have hge := Lib.indexByte_ge (l.drop (i + 1)) (l[i]?.getD 0)
    have hlt2 := indexByte_lt (l.drop (i + 1)) (l[i]?.getD 0)
    simp only [List.length_drop] at hlt2
    generalize Lib.indexByte (l.drop (i + 1)) (l[i]?.getD 0) = k at hx hge hlt2 ⊢
    repeat' (first | (first | refine ewp_seq ?_ | refine run_region hc (by simp; exact Ends.go) (by first | exact True.intro | omega | (simp; done) | (simp; omega) | (simp at *; omega)) ?_ | refine run_draw hc (by kernel_rfl) (by kernel_rfl) (by simp; exact Ends.go) (by first | exact True.intro | omega | (simp; done) | (simp; omega) | (simp at *; omega)) ?_ | refine ewp_scope ?_ | refine scopeQ_normal ?_ | refine scopeQ_ret ?_ | refine scopeQ_exit ?_ | refine ewp_skip ?_ | refine ewp_block ?_ | refine ewp_exit ?_ | refine ewp_label ?_ | refine thenQ_normal ?_ | refine thenQ_ret ?_ | refine thenQ_exit ?_ | refine blockQ_normal ?_ | refine blockQ_ret ?_ | refine blockQ_here ?_ | refine blockQ_there (by decide) ?_ | refine ewp_ret ?_ | refine opsW_nil ?_ | refine quietW_nil ?_ | (refine run_cond (by simp; exact Gives.mk) (fun hb => ?_) (fun hb => ?_) <;> (try simp at hb)) | fail) | (first | refine run_callW hc (by simp; exact Gives.mk) (by simp; exact Gives.mk) (by simp; exact Gives.mk) (by simp; exact Gives.mk) (by simp; exact Gives.mk) (fun _ => by first | exact hx) (by simp) (by simp) ?_ | refine run_callQ hc (by simp; exact Gives.mk) (by simp; exact Gives.mk) (by simp; exact Gives.mk) (by simp; exact Gives.mk) (by simp; exact Gives.mk) (fun _ => by first | exact hx) (by simp) (by simp) ?_ | refine run_ops hc (by simp; first | exact Ends.go | exact Ends.halt) (by decide) (by first | exact True.intro | omega | (simp; done) | (simp; omega) | (simp at *; omega)) ?_ | refine run_quiet hc (by simp; first | exact Ends.go | exact Ends.halt) (by decide) (by first | exact True.intro | omega | (simp; done) | (simp; omega) | (simp at *; omega)) ?_ | refine run_regionW hc (by simp; exact Ends.halt) (by first | exact True.intro | omega | (simp; done) | (simp; omega) | (simp at *; omega)) ?_ | refine run_drawN hc (by kernel_rfl) (by decide) (by kernel_rfl) (by simp; exact Ends.halt) (by first | exact True.intro | omega | (simp; done) | (simp; omega) | (simp at *; omega)) ?_ | fail))
    · rw [if_pos hb]
      (refine run_leave hc (by simp; exact Gives.mk) ?_)
      (first | (simp; done) | (simp; omega))
    · rw [if_neg (by omega)]
      (refine run_leave hc (by simp; exact Gives.mk) ?_)
      (first | (simp; done) | (simp; omega))
  · have hq : ¬ (l[i]? = some 34 ∨ l[i]? = some 39) := by rw [key, key]; simp; omega
    have h1 := skip_ge inValB l i
    have h2 := skip_le inValB l i hi
    have h3 := fun k => skip_at (p := inValB) (l := l) (i := i) (k := k)
    have h4 := skip_stop (p := inValB) (l := l) (i := i)
    have hv : val l i = ((i, (val l i).2.2), decide (i < (val l i).2.2), (val l i).2.2) := by unfold val; rw [if_neg hq]; split <;> rfl
    have hF : (val l i).2.2 = if i < skip inValB l i ∧ l[skip inValB l i - 1]? = some 47 ∧ l[skip inValB l i]? = some 62 then skip inValB l i - 1 else skip inValB l i := by unfold val; rw [if_neg hq]; split <;> rfl
    generalize (val l i).2.2 = F at hv hF
    rw [hv]
    generalize skip inValB l i = e at h1 h2 h3 h4 hF
    have hsb : F ≤ e ∧ i ≤ F := by rw [hF]; split <;> omega
    have n62 : inValB 62 = false := by decide
    have hgo : ∀ j, i ≤ j → j ≤ F → j < l.length → inValB (l[j]?.getD 0) = true → [47, 62].isPrefixOf (l.drop j) = false → j < F := by
      intro j hj1 hj2 hj3 hj4 hj5
      by_cases hjF : j = F
      · exfalso
        subst hjF
        rw [hF] at hj2 hj3 hj4 hj5
        split at hj5
        · rename_i hc
          have := (pre_two 47 62 l (e - 1)).2 ⟨hc.2.1, by rw [show e - 1 + 1 = e by omega]; exact hc.2.2⟩
          rw [this] at hj5; cases hj5
        · rename_i hc
          rw [if_neg hc] at hj3 hj4
          rw [h4 hj3] at hj4; cases hj4
      · omega
    have hst : ∀ j, i ≤ j → j ≤ F → (j < l.length → inValB (l[j]?.getD 0) = true → [47, 62].isPrefixOf (l.drop j) = true) → j = F := by
      intro j hj1 hj2 hj3
      by_cases hjF : j = F
      · exact hjF
      · exfalso
        obtain ⟨h5, h6⟩ := h3 j hj1 (by omega)
        have h7 := (pre_two 47 62 l j).1 (hj3 h5 h6)
        have h8 : ¬ j + 1 < e := fun h => by
          have := (h3 (j + 1) (by omega) h).2
          rw [h7.2] at this
          rw [Option.getD_some, n62] at this; cases this
        have h9 : j + 1 = e := by omega
        rw [if_pos ⟨by omega, by rw [← h9]; exact h7.1, by rw [← h9]; exact h7.2⟩] at hF
        omega
    refine ewp_loop (fun j : Nat => ⟨[(0, .d (str l)), (1, .d (int i)), (4, .bp 4 0), (5, .d (int 0)), (6, .d (tru false)), (8, .d (int j))], [(4, .box 33 [.d (int 0), .d (int 0)])]⟩) (fun j => i ≤ j ∧ j ≤ F) (fun j => F - j) i (by omega) (run_keep [0, 1, 4, 5, 6, 8] [4] (by simp; exact Gives.mk) (by simp; exact Gives.mk)) ?_
    rintro j ⟨hj1, hj2⟩
    have hs := stands_ok l 47 [62] j (by omega) hm
    have hg1 := hgo j hj1 hj2
    have hs1 := hst j hj1 hj2
    generalize [47, 62].isPrefixOf (l.drop j) = q at hs hg1 hs1
    repeat' (first | (first | refine ewp_seq ?_ | refine run_region hc (by simp; exact Ends.go) (by first | exact True.intro | omega | (simp; done) | (simp; omega) | (simp at *; omega)) ?_ | refine run_draw hc (by kernel_rfl) (by kernel_rfl) (by simp; exact Ends.go) (by first | exact True.intro | omega | (simp; done) | (simp; omega) | (simp at *; omega)) ?_ | refine ewp_scope ?_ | refine scopeQ_normal ?_ | refine scopeQ_ret ?_ | refine scopeQ_exit ?_ | refine ewp_skip ?_ | refine ewp_block ?_ | refine ewp_exit ?_ | refine ewp_label ?_ | refine thenQ_normal ?_ | refine thenQ_ret ?_ | refine thenQ_exit ?_ | refine blockQ_normal ?_ | refine blockQ_ret ?_ | refine blockQ_here ?_ | refine blockQ_there (by decide) ?_ | refine ewp_ret ?_ | refine opsW_nil ?_ | refine quietW_nil ?_ | (refine run_cond (by simp; exact Gives.mk) (fun hb => ?_) (fun hb => ?_) <;> (try simp at hb)) | fail) | (first | refine run_callW hc (by simp; exact Gives.mk) (by simp; exact Gives.mk) (by simp; exact Gives.mk) (by simp; exact Gives.mk) (by simp; exact Gives.mk) (fun _ => by first | exact plainByte_ok _ | exact hs) (by simp) (by simp) ?_ | refine run_callQ hc (by simp; exact Gives.mk) (by simp; exact Gives.mk) (by simp; exact Gives.mk) (by simp; exact Gives.mk) (by simp; exact Gives.mk) (fun _ => by first | exact plainByte_ok _ | exact hs) (by simp) (by simp) ?_ | refine run_ops hc (by simp; first | exact Ends.go | exact Ends.halt) (by decide) (by first | exact True.intro | omega | (simp; done) | (simp; omega) | (simp at *; omega)) ?_ | refine run_quiet hc (by simp; first | exact Ends.go | exact Ends.halt) (by decide) (by first | exact True.intro | omega | (simp; done) | (simp; omega) | (simp at *; omega)) ?_ | refine run_regionW hc (by simp; exact Ends.halt) (by first | exact True.intro | omega | (simp; done) | (simp; omega) | (simp at *; omega)) ?_ | refine run_drawN hc (by kernel_rfl) (by decide) (by kernel_rfl) (by simp; exact Ends.halt) (by first | exact True.intro | omega | (simp; done) | (simp; omega) | (simp at *; omega)) ?_ | fail))
    · exact ⟨j + 1, by have := hg1 hb.1.1 hb.1.2 hb.2; omega, by have := hg1 hb.1.1 hb.1.2 hb.2; omega, run_back [0, 1, 4, 5, 6, 8] [4] (by simp; exact Gives.mk) (by simp; exact Gives.mk) (by simp)⟩
    · obtain rfl := hs1 hb
      (refine run_leave hc (by simp; exact Gives.mk) ?_)
      (first | (simp; done) | (simp; omega))
end Go.Proofs.Ytgebkjngnfdeiaa
