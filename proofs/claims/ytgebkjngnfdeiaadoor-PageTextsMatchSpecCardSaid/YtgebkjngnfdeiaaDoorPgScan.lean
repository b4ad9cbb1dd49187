/-
  PAGE: the scanner: bytes, names.
-/
import Derived.Test.YtgebkjngnfdeiaaDoorPgSafe
import Derived.Test.YtgebkjngnfdeiaaDoorLwTail
set_option linter.unusedSimpArgs false
set_option linter.unusedVariables false
namespace Go.Proofs.YtgebkjngnfdeiaaDoor
open Go.Lw
set_option maxRecDepth 100000
set_option maxHeartbeats 1000000

/-! Bytes. -/
def inTagB (c : UInt8) : Bool := isLet c || isDig c || decide (c.toNat = 45)
def inNameB (c : UInt8) : Bool := inTagB c || decide (c.toNat = 95) || decide (c.toNat = 58)
def quotes : Bs := [34, 39, 61, 60, 62, 96]
def inValB (c : UInt8) : Bool := !isBl c && !quotes.contains c
theorem index_neg (l : Bs) (c : UInt8) : Lib.indexByte l c < 0 ↔ l.contains c = false := by
  induction l with
  | nil => simp [Lib.indexByte]
  | cons b l ih =>
    have hg := Lib.indexByte_ge l c
    simp only [Lib.indexByte]
    by_cases hb : b = c
    · subst hb; simp
    · have hb' : ¬ c = b := fun e => hb e.symm
      simp only [beq_iff_eq, hb, if_false, List.contains_cons, Bool.or_eq_false_iff, beq_eq_false_iff_ne, ne_eq, hb', not_false_eq_true, true_and]
      rw [← ih]
      split <;> omega
/-! As far as bytes are of a kind. -/
def skip (p : UInt8 → Bool) (l : Bs) (i : Nat) : Nat := i + ((l.drop i).takeWhile p).length
theorem skip_step (p : UInt8 → Bool) (l : Bs) (i : Nat) (h : i < l.length) : skip p l i = if p (l[i]?.getD 0) then skip p l (i + 1) else i := by
  unfold skip
  rw [List.drop_eq_getElem_cons h, List.takeWhile_cons]
  have : l[i]?.getD 0 = l[i] := by simp [h]
  rw [this]
  split
  · simp; omega
  · simp
theorem skip_end (p : UInt8 → Bool) (l : Bs) (i : Nat) (h : l.length ≤ i) : skip p l i = i := by
  unfold skip
  rw [List.drop_of_length_le h]; simp
theorem skip_ge (p : UInt8 → Bool) (l : Bs) (i : Nat) : i ≤ skip p l i := by unfold skip; omega
theorem skip_le (p : UInt8 → Bool) (l : Bs) (i : Nat) (h : i ≤ l.length) : skip p l i ≤ l.length := by
  unfold skip
  have := (List.takeWhile_prefix (l := l.drop i) p).length_le
  simp at this; omega

abbrev scn (l : Bs) (i : Int) : List (Nat × O) := [(100000, .box 57 [.d (str l), .d (int i)])]
abbrev scnP (l : Bs) (i : Int) : D := .ip [str l, int i] 0
theorem has_ok (l p : Bs) (i : Nat) (hi : i ≤ l.length) (hm : l.length ≤ 200000) : FnOk Tryd.prog 44 [scnP l i, str p] (tru (p.isPrefixOf (l.drop i))) := by
  refine fnOk Tryd.func44 rfl (by kernel_rfl) Tryd.ntmps44 _ rfl (by simp) fun C hc => ?_
  repeat' (first | (first | refine ewp_seq ?_ | refine run_region hc (by simp; exact Ends.go) (by first | exact True.intro | omega | (simp; done) | (simp; omega) | (simp at *; omega)) ?_ | refine run_draw hc (by kernel_rfl) (by kernel_rfl) (by simp; exact Ends.go) (by first | exact True.intro | omega | (simp; done) | (simp; omega) | (simp at *; omega)) ?_ | refine ewp_scope ?_ | refine scopeQ_normal ?_ | refine scopeQ_ret ?_ | refine scopeQ_exit ?_ | refine ewp_skip ?_ | refine ewp_block ?_ | refine ewp_exit ?_ | refine ewp_label ?_ | refine thenQ_normal ?_ | refine thenQ_ret ?_ | refine thenQ_exit ?_ | refine blockQ_normal ?_ | refine blockQ_ret ?_ | refine blockQ_here ?_ | refine blockQ_there (by decide) ?_ | refine ewp_ret ?_ | refine opsW_nil ?_ | refine quietW_nil ?_ | (refine run_cond (by simp; exact Gives.mk) (fun hb => ?_) (fun hb => ?_) <;> (try simp at hb)) | fail) | (first | refine run_callW hc (by simp; exact Gives.mk) (by simp; exact Gives.mk) (by simp; exact Gives.mk) (by simp; exact Gives.mk) (by simp; exact Gives.mk) (fun _ => by first | exact hasPrefix_ok _ _) (by simp) (by simp) ?_ | refine run_callQ hc (by simp; exact Gives.mk) (by simp; exact Gives.mk) (by simp; exact Gives.mk) (by simp; exact Gives.mk) (by simp; exact Gives.mk) (fun _ => by first | exact hasPrefix_ok _ _) (by simp) (by simp) ?_ | refine run_ops hc (by simp; first | exact Ends.go | exact Ends.halt) (by decide) (by first | exact True.intro | omega | (simp; done) | (simp; omega) | (simp at *; omega)) ?_ | refine run_quiet hc (by simp; first | exact Ends.go | exact Ends.halt) (by decide) (by first | exact True.intro | omega | (simp; done) | (simp; omega) | (simp at *; omega)) ?_ | refine run_regionW hc (by simp; exact Ends.halt) (by first | exact True.intro | omega | (simp; done) | (simp; omega) | (simp at *; omega)) ?_ | refine run_drawW hc (by kernel_rfl) (by kernel_rfl) (by simp; exact Ends.halt) (by first | exact True.intro | omega | (simp; done) | (simp; omega) | (simp at *; omega)) ?_ | fail))
  (refine run_leave hc (by simp; exact Gives.mk) ?_)
  simp
abbrev fv (f : FuncId) : V := .d (.lit (.func (.func f) #[] #[]))
theorem some_ok (p : UInt8 → Bool) (f : FuncId) (hf : ∀ c, FnOk Tryd.prog f [u8 c] (tru (p c))) (l : Bs) (i : Nat) (hi : i ≤ l.length) (hm : l.length ≤ 200000) :
    FnMem Tryd.prog 40 [.bp 100000 0, fv f] (scn l i) (.d (int ((skip p l i : Int) - i))) (scn l (skip p l i)) := by
  refine fnMem Tryd.func40 rfl (by kernel_rfl) Tryd.ntmps40 _ rfl (by simp) fun C hc => ?_
  repeat' (first | refine ewp_seq ?_ | refine run_region hc (by simp; exact Ends.go) (by first | exact True.intro | omega | (simp; done) | (simp; omega) | (simp at *; omega)) ?_ | refine run_draw hc (by kernel_rfl) (by kernel_rfl) (by simp; exact Ends.go) (by first | exact True.intro | omega | (simp; done) | (simp; omega) | (simp at *; omega)) ?_ | refine ewp_scope ?_ | refine scopeQ_normal ?_ | refine scopeQ_ret ?_ | refine scopeQ_exit ?_ | refine ewp_skip ?_ | refine ewp_block ?_ | refine ewp_exit ?_ | refine ewp_label ?_ | refine thenQ_normal ?_ | refine thenQ_ret ?_ | refine thenQ_exit ?_ | refine blockQ_normal ?_ | refine blockQ_ret ?_ | refine blockQ_here ?_ | refine blockQ_there (by decide) ?_ | refine ewp_ret ?_ | refine opsW_nil ?_ | refine quietW_nil ?_ | (refine run_cond (by simp; exact Gives.mk) (fun hb => ?_) (fun hb => ?_) <;> (try simp at hb)) | fail)
  refine ewp_loop (fun j : Nat => ⟨[(0, .bp 100000 0), (1, fv f), (5, .d (int i))], scn l j⟩) (fun j => i ≤ j ∧ j ≤ l.length ∧ skip p l j = skip p l i) (fun j => l.length - j) i (by simp; omega) (run_keep [0, 1, 5] [100000] (by simp; exact Gives.mk) (by simp; exact Gives.mk)) ?_
  rintro j ⟨h1, h2, h3⟩
  have hs := fun h => skip_step p l j h
  have he := fun h => skip_end p l j h
  repeat' (first | (first | refine ewp_seq ?_ | refine run_region hc (by simp; exact Ends.go) (by first | exact True.intro | omega | (simp; done) | (simp; omega) | (simp at *; omega)) ?_ | refine run_draw hc (by kernel_rfl) (by kernel_rfl) (by simp; exact Ends.go) (by first | exact True.intro | omega | (simp; done) | (simp; omega) | (simp at *; omega)) ?_ | refine ewp_scope ?_ | refine scopeQ_normal ?_ | refine scopeQ_ret ?_ | refine scopeQ_exit ?_ | refine ewp_skip ?_ | refine ewp_block ?_ | refine ewp_exit ?_ | refine ewp_label ?_ | refine thenQ_normal ?_ | refine thenQ_ret ?_ | refine thenQ_exit ?_ | refine blockQ_normal ?_ | refine blockQ_ret ?_ | refine blockQ_here ?_ | refine blockQ_there (by decide) ?_ | refine ewp_ret ?_ | refine opsW_nil ?_ | refine quietW_nil ?_ | (refine run_cond (by simp; exact Gives.mk) (fun hb => ?_) (fun hb => ?_) <;> (try simp at hb)) | fail) | (first | refine run_callW hc (by simp; exact Gives.mk) (by simp; exact Gives.mk) (by simp; exact Gives.mk) (by simp; exact Gives.mk) (by simp; exact Gives.mk) (fun _ => by first | exact hf _) (by simp) (by simp) ?_ | refine run_callQ hc (by simp; exact Gives.mk) (by simp; exact Gives.mk) (by simp; exact Gives.mk) (by simp; exact Gives.mk) (by simp; exact Gives.mk) (fun _ => by first | exact hf _) (by simp) (by simp) ?_ | refine run_ops hc (by simp; first | exact Ends.go | exact Ends.halt) (by decide) (by first | exact True.intro | omega | (simp; done) | (simp; omega) | (simp at *; omega)) ?_ | refine run_quiet hc (by simp; first | exact Ends.go | exact Ends.halt) (by decide) (by first | exact True.intro | omega | (simp; done) | (simp; omega) | (simp at *; omega)) ?_ | refine run_regionW hc (by simp; exact Ends.halt) (by first | exact True.intro | omega | (simp; done) | (simp; omega) | (simp at *; omega)) ?_ | refine run_drawW hc (by kernel_rfl) (by kernel_rfl) (by simp; exact Ends.halt) (by first | exact True.intro | omega | (simp; done) | (simp; omega) | (simp at *; omega)) ?_ | fail))
  · refine ⟨j + 1, ⟨by omega, by omega, ?_⟩, by omega, run_back [0, 1, 5] [100000] (by simp; exact Gives.mk) (by simp; exact Gives.mk) (by simp)⟩
    rw [← h3, hs hb.1, if_pos hb.2]
  · have e : skip p l i = j := by
      rw [← h3]
      by_cases hj : j < l.length
      · rw [hs hj, if_neg (by rw [hb hj]; decide)]
      · exact he (by omega)
    rw [e]
    (refine run_leaveM [100000] hc (le_end rfl) (by simp; exact Gives.mk) (by simp; exact Gives.mk) (by first | (simp; done) | (simp; omega)) ?_)
    simp
/-- A name. -/
def nm (p : UInt8 → Bool) (l : Bs) (i : Nat) : Nat := if i < l.length ∧ isLet (l[i]?.getD 0) = true then skip p l i else i
theorem nm_ge (p : UInt8 → Bool) (l : Bs) (i : Nat) : i ≤ nm p l i := by unfold nm; have := skip_ge p l i; split <;> omega
theorem nm_le (p : UInt8 → Bool) (l : Bs) (i : Nat) (h : i ≤ l.length) : nm p l i ≤ l.length := by unfold nm; have := skip_le p l i h; split <;> omega
theorem index_ok (s p : Bs) (hs : s.length < 4294967281) : FnOk Tryd.prog 50 [str s, str p] (int (Lib.index s p)) :=
  fnOk_lits [.string (bs s), .string (bs p)] (by kernel_rfl) fun w hw => by
    obtain ⟨m, hm⟩ := hw.2 0 3 .i64 (by kernel_rfl) (by kernel_rfl)
    have h := Tryd.strings_Index (bs s) (bs p) m w (by simpa using hs) hm
    simpa using h

/-! A comment. -/
def cmt (l : Bs) (i : Nat) : Option Nat := if [60, 33, 45, 45].isPrefixOf (l.drop i) = true ∧ 0 ≤ Lib.index (l.drop (i + 4)) [45, 45, 62] then some (i + 7 + (Lib.index (l.drop (i + 4)) [45, 45, 62]).toNat) else none
theorem pre_len {p l : Bs} {i : Nat} (hi : i ≤ l.length) (h : p.isPrefixOf (l.drop i) = true) : i + p.length ≤ l.length := by
  have := (List.isPrefixOf_iff_prefix.1 h).length_le
  simp at this
  omega
theorem cmt_le {l : Bs} {i j : Nat} (hi : i ≤ l.length) (h : cmt l i = some j) : i < j ∧ j ≤ l.length := by
  unfold cmt at h
  split at h
  · rename_i h1
    obtain rfl := Option.some.inj h
    have := pre_len hi h1.1
    have := Lib.index_room (l.drop (i + 4)) [45, 45, 62] h1.2
    simp at this
    omega
  · cases h
end Go.Proofs.YtgebkjngnfdeiaaDoor
