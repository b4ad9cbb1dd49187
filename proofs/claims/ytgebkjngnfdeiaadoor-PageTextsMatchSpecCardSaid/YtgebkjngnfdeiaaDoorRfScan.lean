/-
  THE REFERENCE OF CHAPTER 3: bytes, names, comments, values. (WITH run_drawN.)
-/
import Derived.Test.YtgebkjngnfdeiaaDoorPgTok
set_option linter.unusedSimpArgs false
set_option linter.unusedVariables false
namespace Go.Proofs.YtgebkjngnfdeiaaDoor
open Go.Lw
set_option maxRecDepth 100000
set_option maxHeartbeats 1000000

theorem low_up2 (c : UInt8) (h : 65 ≤ (c.toNat : Int) ∧ (c.toNat : Int) ≤ 90) : ((low c).toNat : Int) = c.toNat + 32 := by
  rw [low_toNat, if_pos (by simp [isUp]; omega)]
  omega
theorem rSmall_ok (l : Bs) (hm : l.length ≤ 9223372036854775807) : FnOk Tryd.prog 54 [str l] (str (small l)) := by
  refine fnOk Tryd.func54 rfl (by kernel_rfl) Tryd.ntmps54 _ rfl (by simp) fun C hc => ?_
  repeat' (first | refine ewp_seq ?_ | refine run_region hc (by simp; exact Ends.go) (by first | exact True.intro | omega | (simp; done) | (simp; omega) | (simp at *; omega)) ?_ | refine run_draw hc (by kernel_rfl) (by kernel_rfl) (by simp; exact Ends.go) (by first | exact True.intro | omega | (simp; done) | (simp; omega) | (simp at *; omega)) ?_ | refine ewp_scope ?_ | refine scopeQ_normal ?_ | refine scopeQ_ret ?_ | refine scopeQ_exit ?_ | refine ewp_skip ?_ | refine ewp_block ?_ | refine ewp_exit ?_ | refine ewp_label ?_ | refine thenQ_normal ?_ | refine thenQ_ret ?_ | refine thenQ_exit ?_ | refine blockQ_normal ?_ | refine blockQ_ret ?_ | refine blockQ_here ?_ | refine blockQ_there (by decide) ?_ | refine ewp_ret ?_ | refine opsW_nil ?_ | refine quietW_nil ?_ | (refine run_cond (by simp; exact Gives.mk) (fun hb => ?_) (fun hb => ?_) <;> (try simp at hb)) | fail)
  refine ewp_loop (fun x : Nat × Bs => ⟨[(3, .os 6 x.2.length), (4, .d (int x.1))], [(6, .own 5 1 (false, [.lit (.int .u8 0)]) (x.2.map byteRow))]⟩) (fun x => x.1 ≤ l.length ∧ x.2 = part low l x.1) (fun x => l.length - x.1) (0, l) ⟨by simp, by simp [part]⟩ (run_keep [3, 4] [6] (by simp; exact Gives.mk) (by simp; exact Gives.mk)) ?_
  rintro ⟨j, m⟩ ⟨hj, hm1⟩
  simp only at hj hm1 ⊢
  have hml : m.length = l.length := by rw [hm1]; exact part_length low l j hj
  have ha : m[j]?.getD 0 = l[j]?.getD 0 := by rw [hm1]; exact part_at low l j hj
  repeat' (first | refine ewp_seq ?_ | refine run_region hc (by simp; exact Ends.go) (by first | exact True.intro | omega | (simp; done) | (simp; omega) | (simp at *; omega)) ?_ | refine run_draw hc (by kernel_rfl) (by kernel_rfl) (by simp; exact Ends.go) (by first | exact True.intro | omega | (simp; done) | (simp; omega) | (simp at *; omega)) ?_ | refine ewp_scope ?_ | refine scopeQ_normal ?_ | refine scopeQ_ret ?_ | refine scopeQ_exit ?_ | refine ewp_skip ?_ | refine ewp_block ?_ | refine ewp_exit ?_ | refine ewp_label ?_ | refine thenQ_normal ?_ | refine thenQ_ret ?_ | refine thenQ_exit ?_ | refine blockQ_normal ?_ | refine blockQ_ret ?_ | refine blockQ_here ?_ | refine blockQ_there (by decide) ?_ | refine ewp_ret ?_ | refine opsW_nil ?_ | refine quietW_nil ?_ | (refine run_cond (by simp; exact Gives.mk) (fun hb => ?_) (fun hb => ?_) <;> (try simp at hb)) | fail)
  · refine ⟨(j + 1, m.set j (low (l[j]?.getD 0))), ⟨by simp; omega, ?_⟩, by simp; omega, run_back [3, 4] [6] (by simp; exact Gives.mk) (by simp; exact Gives.mk) (by rw [ha] at hb; simp [ha, low_up2 _ hb])⟩
    simp only
    rw [hm1, part_set low l j (by omega)]
  · refine ⟨(j + 1, m), ⟨by simp; omega, ?_⟩, by simp; omega, run_back [3, 4] [6] (by simp; exact Gives.mk) (by simp; exact Gives.mk) (by simp)⟩
    simp only
    rw [hm1]
    refine part_same low l j (by omega) ?_
    rw [ha] at hb
    unfold low isUp
    rw [if_neg (by simp; omega)]
  · (refine run_leave hc (by simp; exact Gives.mk) ?_)
    simp [hm1, part, small, List.take_of_length_le (show l.length ≤ j by omega), List.drop_of_length_le (show l.length ≤ j by omega)]
theorem rBlank_ok (c : UInt8) : FnOk Tryd.prog 32 [u8 c] (tru (isBl c)) := by
  refine fnOk Tryd.func32 rfl (by kernel_rfl) Tryd.ntmps32 _ rfl (by simp) fun C hc => ?_
  repeat' (first | refine ewp_seq ?_ | refine run_region hc (by simp; exact Ends.go) (by first | exact True.intro | omega | (simp; done) | (simp; omega) | (simp at *; omega)) ?_ | refine run_draw hc (by kernel_rfl) (by kernel_rfl) (by simp; exact Ends.go) (by first | exact True.intro | omega | (simp; done) | (simp; omega) | (simp at *; omega)) ?_ | refine ewp_scope ?_ | refine scopeQ_normal ?_ | refine scopeQ_ret ?_ | refine scopeQ_exit ?_ | refine ewp_skip ?_ | refine ewp_block ?_ | refine ewp_exit ?_ | refine ewp_label ?_ | refine thenQ_normal ?_ | refine thenQ_ret ?_ | refine thenQ_exit ?_ | refine blockQ_normal ?_ | refine blockQ_ret ?_ | refine blockQ_here ?_ | refine blockQ_there (by decide) ?_ | refine ewp_ret ?_ | refine opsW_nil ?_ | refine quietW_nil ?_ | (refine run_cond (by simp; exact Gives.mk) (fun hb => ?_) (fun hb => ?_) <;> (try simp at hb)) | fail)
  (refine run_leave hc (by simp; exact Gives.mk) ?_)
  refine res_bool ?_
  rw [Bool.eq_iff_iff]; simp [isBl]; omega
def inB (m : Bs) (c : UInt8) : Bool := isLet c || isDig c || m.contains c
theorem inB_tag : inB [45] = inTagB := by
  funext c
  simp [inB, inTagB, List.contains_cons, ← UInt8.toNat_inj]
theorem inB_name : inB [45, 95, 58] = inNameB := by
  funext c
  simp [inB, inNameB, inTagB, List.contains_cons, ← UInt8.toNat_inj, Bool.or_assoc]
theorem index_nonneg (l : Bs) (c : UInt8) : 0 ≤ Lib.indexByte l c ↔ l.contains c = true := by
  by_cases h : l.contains c = true
  · have hn : ¬ Lib.indexByte l c < 0 := fun hn => by rw [(index_neg l c).1 hn] at h; cases h
    exact ⟨fun _ => h, fun _ => by omega⟩
  · have hn := (index_neg l c).2 (Bool.eq_false_iff.2 h)
    exact ⟨fun _ => by omega, fun h' => absurd h' h⟩
theorem rBlanks_ok (l : Bs) (i : Nat) (hi : i ≤ 300000) (hm : l.length ≤ 200000) : FnOk Tryd.prog 31 [str l, int i] (int (skip isBl l i)) := by
  refine fnOk Tryd.func31 rfl (by kernel_rfl) Tryd.ntmps31 _ rfl (by simp) fun C hc => ?_
  repeat' (first | refine ewp_seq ?_ | refine run_region hc (by simp; exact Ends.go) (by first | exact True.intro | omega | (simp; done) | (simp; omega) | (simp at *; omega)) ?_ | refine run_draw hc (by kernel_rfl) (by kernel_rfl) (by simp; exact Ends.go) (by first | exact True.intro | omega | (simp; done) | (simp; omega) | (simp at *; omega)) ?_ | refine ewp_scope ?_ | refine scopeQ_normal ?_ | refine scopeQ_ret ?_ | refine scopeQ_exit ?_ | refine ewp_skip ?_ | refine ewp_block ?_ | refine ewp_exit ?_ | refine ewp_label ?_ | refine thenQ_normal ?_ | refine thenQ_ret ?_ | refine thenQ_exit ?_ | refine blockQ_normal ?_ | refine blockQ_ret ?_ | refine blockQ_here ?_ | refine blockQ_there (by decide) ?_ | refine ewp_ret ?_ | refine opsW_nil ?_ | refine quietW_nil ?_ | (refine run_cond (by simp; exact Gives.mk) (fun hb => ?_) (fun hb => ?_) <;> (try simp at hb)) | fail)
  refine ewp_loop (fun j : Nat => ⟨[(0, .d (str l)), (1, .d (int j))], []⟩) (fun j => i ≤ j ∧ (j ≤ l.length ∨ j = i) ∧ skip isBl l j = skip isBl l i) (fun j => l.length - j) i (by simp) (run_keep [0, 1] [] (by simp; exact Gives.mk) (by simp; exact Gives.mk)) ?_
  rintro j ⟨h1, h2, h3⟩
  have hs := fun h => skip_step isBl l j h
  have he := fun h => skip_end isBl l j h
  repeat' (first | (first | refine ewp_seq ?_ | refine run_region hc (by simp; exact Ends.go) (by first | exact True.intro | omega | (simp; done) | (simp; omega) | (simp at *; omega)) ?_ | refine run_draw hc (by kernel_rfl) (by kernel_rfl) (by simp; exact Ends.go) (by first | exact True.intro | omega | (simp; done) | (simp; omega) | (simp at *; omega)) ?_ | refine ewp_scope ?_ | refine scopeQ_normal ?_ | refine scopeQ_ret ?_ | refine scopeQ_exit ?_ | refine ewp_skip ?_ | refine ewp_block ?_ | refine ewp_exit ?_ | refine ewp_label ?_ | refine thenQ_normal ?_ | refine thenQ_ret ?_ | refine thenQ_exit ?_ | refine blockQ_normal ?_ | refine blockQ_ret ?_ | refine blockQ_here ?_ | refine blockQ_there (by decide) ?_ | refine ewp_ret ?_ | refine opsW_nil ?_ | refine quietW_nil ?_ | (refine run_cond (by simp; exact Gives.mk) (fun hb => ?_) (fun hb => ?_) <;> (try simp at hb)) | fail) | (first | refine run_callW hc (by simp; exact Gives.mk) (by simp; exact Gives.mk) (by simp; exact Gives.mk) (by simp; exact Gives.mk) (by simp; exact Gives.mk) (fun _ => by first | exact rBlank_ok _) (by simp) (by simp) ?_ | refine run_callQ hc (by simp; exact Gives.mk) (by simp; exact Gives.mk) (by simp; exact Gives.mk) (by simp; exact Gives.mk) (by simp; exact Gives.mk) (fun _ => by first | exact rBlank_ok _) (by simp) (by simp) ?_ | refine run_ops hc (by simp; first | exact Ends.go | exact Ends.halt) (by decide) (by first | exact True.intro | omega | (simp; done) | (simp; omega) | (simp at *; omega)) ?_ | refine run_quiet hc (by simp; first | exact Ends.go | exact Ends.halt) (by decide) (by first | exact True.intro | omega | (simp; done) | (simp; omega) | (simp at *; omega)) ?_ | refine run_regionW hc (by simp; exact Ends.halt) (by first | exact True.intro | omega | (simp; done) | (simp; omega) | (simp at *; omega)) ?_ | refine run_drawN hc (by kernel_rfl) (by decide) (by kernel_rfl) (by simp; exact Ends.halt) (by first | exact True.intro | omega | (simp; done) | (simp; omega) | (simp at *; omega)) ?_ | fail))
  · refine ⟨j + 1, ⟨by omega, by omega, ?_⟩, by omega, run_back [0, 1] [] (by simp; exact Gives.mk) (by simp; exact Gives.mk) (by simp)⟩
    rw [← h3, hs hb.1, if_pos hb.2]
  · have e : skip isBl l i = j := by
      rw [← h3]
      by_cases hj : j < l.length
      · rw [hs hj, if_neg (by rw [hb hj]; decide)]
      · exact he (by omega)
    rw [e]
    (refine run_leave hc (by simp; exact Gives.mk) ?_)
    simp
theorem stands_ok (l : Bs) (c : UInt8) (p : Bs) (i : Nat) (hi : i ≤ 500000) (hm : l.length ≤ 200000) : FnOk Tryd.prog 27 [str l, int i, str (c :: p)] (tru ((c :: p).isPrefixOf (l.drop i))) := by
  refine fnOk Tryd.func27 rfl (by kernel_rfl) Tryd.ntmps27 _ rfl (by simp) fun C hc => ?_
  repeat' (first | (first | refine ewp_seq ?_ | refine run_region hc (by simp; exact Ends.go) (by first | exact True.intro | omega | (simp; done) | (simp; omega) | (simp at *; omega)) ?_ | refine run_draw hc (by kernel_rfl) (by kernel_rfl) (by simp; exact Ends.go) (by first | exact True.intro | omega | (simp; done) | (simp; omega) | (simp at *; omega)) ?_ | refine ewp_scope ?_ | refine scopeQ_normal ?_ | refine scopeQ_ret ?_ | refine scopeQ_exit ?_ | refine ewp_skip ?_ | refine ewp_block ?_ | refine ewp_exit ?_ | refine ewp_label ?_ | refine thenQ_normal ?_ | refine thenQ_ret ?_ | refine thenQ_exit ?_ | refine blockQ_normal ?_ | refine blockQ_ret ?_ | refine blockQ_here ?_ | refine blockQ_there (by decide) ?_ | refine ewp_ret ?_ | refine opsW_nil ?_ | refine quietW_nil ?_ | (refine run_cond (by simp; exact Gives.mk) (fun hb => ?_) (fun hb => ?_) <;> (try simp at hb)) | fail) | (first | refine run_callW hc (by simp; exact Gives.mk) (by simp; exact Gives.mk) (by simp; exact Gives.mk) (by simp; exact Gives.mk) (by simp; exact Gives.mk) (fun _ => by first | exact hasPrefix_ok _ _) (by simp) (by simp) ?_ | refine run_callQ hc (by simp; exact Gives.mk) (by simp; exact Gives.mk) (by simp; exact Gives.mk) (by simp; exact Gives.mk) (by simp; exact Gives.mk) (fun _ => by first | exact hasPrefix_ok _ _) (by simp) (by simp) ?_ | refine run_ops hc (by simp; first | exact Ends.go | exact Ends.halt) (by decide) (by first | exact True.intro | omega | (simp; done) | (simp; omega) | (simp at *; omega)) ?_ | refine run_quiet hc (by simp; first | exact Ends.go | exact Ends.halt) (by decide) (by first | exact True.intro | omega | (simp; done) | (simp; omega) | (simp at *; omega)) ?_ | refine run_regionW hc (by simp; exact Ends.halt) (by first | exact True.intro | omega | (simp; done) | (simp; omega) | (simp at *; omega)) ?_ | refine run_drawN hc (by kernel_rfl) (by decide) (by kernel_rfl) (by simp; exact Ends.halt) (by first | exact True.intro | omega | (simp; done) | (simp; omega) | (simp at *; omega)) ?_ | fail))
  (refine run_leave hc (by simp; exact Gives.mk) ?_)
  refine res_bool ?_
  by_cases h : i ≤ l.length
  · simp [h]
  · rw [List.drop_of_length_le (by omega)]
    simp [h]
/-! A value. -/
theorem skip_at {p : UInt8 → Bool} {l : Bs} {i : Nat} : ∀ {k : Nat}, i ≤ k → k < skip p l i → k < l.length ∧ p (l[k]?.getD 0) = true := by
  intro k h1 h2
  by_cases hi : i < l.length
  rotate_left
  · rw [skip_end p l i (by omega)] at h2; omega
  rw [skip_step p l i hi] at h2
  split at h2
  · rename_i hp
    by_cases hk : k = i
    · subst hk; exact ⟨hi, hp⟩
    · exact skip_at (i := i + 1) (by omega) h2
  · omega
termination_by l.length - i
theorem skip_stop {p : UInt8 → Bool} {l : Bs} {i : Nat} (h : skip p l i < l.length) : p (l[skip p l i]?.getD 0) = false := by
  by_cases hi : i < l.length
  rotate_left
  · rw [skip_end p l i (by omega)] at h; omega
  rw [skip_step p l i hi] at h ⊢
  split
  · rename_i hp
    rw [if_pos hp] at h
    exact skip_stop h
  · rename_i hp
    simpa using hp
termination_by l.length - i
theorem pre_two (c d : UInt8) (l : Bs) (i : Nat) : [c, d].isPrefixOf (l.drop i) = true ↔ l[i]? = some c ∧ l[i + 1]? = some d := by
  have h1 := pre_one c l i
  have h2 := pre_one d l (i + 1)
  by_cases h : i < l.length
  · rw [List.drop_eq_getElem_cons h] at h1 ⊢
    have e : [c, d].isPrefixOf (l[i] :: l.drop (i + 1)) = ([c].isPrefixOf (l[i] :: l.drop (i + 1)) && [d].isPrefixOf (l.drop (i + 1))) := by
      simp [List.isPrefixOf]
    rw [e, h1, h2]
    simp
  · rw [List.drop_of_length_le (by omega), List.getElem?_eq_none (by omega)]
    simp [List.isPrefixOf]
end Go.Proofs.YtgebkjngnfdeiaaDoor
