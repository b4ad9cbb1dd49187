/-
  PAGE: strings in lists, joined and made few: contracts. (WITH run_drawN.)
-/
import Derived.Test.YtgebkjngnfdeiaaRfLaw
set_option linter.unusedSimpArgs false
set_option linter.unusedVariables false
namespace Go.Proofs.Ytgebkjngnfdeiaa
open Go.Lw Go.RowKit Go.ChangeShapes Go.WideShapes Go.ChangeAt
set_option maxRecDepth 100000
set_option maxHeartbeats 1000000

abbrev strSl (L : List Bs) : D := .sl L.length fun i => (L.map fun x => [str x])[i]?.getD [str []]
@[simp] theorem getD_str (o : Option Bs) : (Option.map (fun x => [str x]) o).getD [.lit (.string (bs []))] = [str (o.getD [])] := by cases o <;> rfl
def idxS (L : List Bs) (s : Bs) (j : Nat) : Int := if j < L.length then (if s = L[j]?.getD [] then (j : Int) else idxS L s (j + 1)) else -1
termination_by L.length - j
theorem idxS_mem (L : List Bs) (s : Bs) (j : Nat) : 0 ≤ idxS L s j ↔ s ∈ L.drop j := by
  rw [idxS]
  split
  · rename_i h
    rw [List.drop_eq_getElem_cons h, List.getElem?_eq_getElem h, Option.getD_some]
    split
    · rename_i hs
      exact ⟨fun _ => List.mem_cons.2 (.inl hs), fun _ => by omega⟩
    · rename_i hs
      rw [idxS_mem L s (j + 1), List.mem_cons]
      exact ⟨.inr, fun h => h.resolve_left hs⟩
  · rename_i h
    rw [List.drop_of_length_le (by omega)]
    simp
termination_by L.length - j
theorem sIndex_ok (L : List Bs) (s : Bs) (hm : L.length ≤ 200000) : FnOk Try.prog 64 [strSl L, str s] (int (idxS L s 0)) := by
  refine fnOk Try.func64 rfl (by kernel_rfl) Try.ntmps64 _ rfl (by simp) fun C hc => ?_
  repeat' (first | refine ewp_seq ?_ | refine run_region hc (by simp; exact Ends.go) (by first | exact True.intro | omega | (simp; done) | (simp; omega) | (simp at *; omega)) ?_ | refine run_draw hc (by kernel_rfl) (by kernel_rfl) (by simp; exact Ends.go) (by first | exact True.intro | omega | (simp; done) | (simp; omega) | (simp at *; omega)) ?_ | refine ewp_scope ?_ | refine scopeQ_normal ?_ | refine scopeQ_ret ?_ | refine scopeQ_exit ?_ | refine ewp_skip ?_ | refine ewp_block ?_ | refine ewp_exit ?_ | refine ewp_label ?_ | refine thenQ_normal ?_ | refine thenQ_ret ?_ | refine thenQ_exit ?_ | refine blockQ_normal ?_ | refine blockQ_ret ?_ | refine blockQ_here ?_ | refine blockQ_there (by decide) ?_ | refine ewp_ret ?_ | refine opsW_nil ?_ | refine quietW_nil ?_ | (refine run_cond (by simp; exact Gives.mk) (fun hb => ?_) (fun hb => ?_) <;> (try simp at hb)) | fail)
  refine ewp_loop (fun j : Nat => ⟨[(0, .d (strSl L)), (1, .d (str s)), (7, .d (int L.length)), (8, .d (int j))], []⟩) (fun j => j ≤ L.length ∧ idxS L s 0 = idxS L s j) (fun j => L.length - j) 0 (by simp) (run_keep [0, 1, 7, 8] [] (by simp; exact Gives.mk) (by simp; exact Gives.mk)) ?_
  rintro j ⟨h1, h2⟩
  have h3 : idxS L s j = if j < L.length then (if s = L[j]?.getD [] then (j : Int) else idxS L s (j + 1)) else -1 := by rw [idxS]
  repeat' (first | (first | refine ewp_seq ?_ | refine run_region hc (by simp; exact Ends.go) (by first | exact True.intro | omega | (simp; done) | (simp; omega) | (simp at *; omega)) ?_ | refine run_draw hc (by kernel_rfl) (by kernel_rfl) (by simp; exact Ends.go) (by first | exact True.intro | omega | (simp; done) | (simp; omega) | (simp at *; omega)) ?_ | refine ewp_scope ?_ | refine scopeQ_normal ?_ | refine scopeQ_ret ?_ | refine scopeQ_exit ?_ | refine ewp_skip ?_ | refine ewp_block ?_ | refine ewp_exit ?_ | refine ewp_label ?_ | refine thenQ_normal ?_ | refine thenQ_ret ?_ | refine thenQ_exit ?_ | refine blockQ_normal ?_ | refine blockQ_ret ?_ | refine blockQ_here ?_ | refine blockQ_there (by decide) ?_ | refine ewp_ret ?_ | refine opsW_nil ?_ | refine quietW_nil ?_ | (refine run_cond (by simp; exact Gives.mk) (fun hb => ?_) (fun hb => ?_) <;> (try simp at hb)) | fail) | (first | refine run_callW hc (by simp; exact Gives.mk) (by simp; exact Gives.mk) (by simp; exact Gives.mk) (by simp; exact Gives.mk) (by simp; exact Gives.mk) (fun _ => by first | exact trivial) (by simp) (by simp) ?_ | refine run_callQ hc (by simp; exact Gives.mk) (by simp; exact Gives.mk) (by simp; exact Gives.mk) (by simp; exact Gives.mk) (by simp; exact Gives.mk) (fun _ => by first | exact trivial) (by simp) (by simp) ?_ | refine run_ops hc (by simp; first | exact Ends.go | exact Ends.halt) (by decide) (by first | exact True.intro | omega | (simp; done) | (simp; omega) | (simp at *; omega)) ?_ | refine run_quiet hc (by simp; first | exact Ends.go | exact Ends.halt) (by decide) (by first | exact True.intro | omega | (simp; done) | (simp; omega) | (simp at *; omega)) ?_ | refine run_regionW hc (by simp; exact Ends.halt) (by first | exact True.intro | omega | (simp; done) | (simp; omega) | (simp at *; omega)) ?_ | refine run_drawN hc (by kernel_rfl) (by decide) (by kernel_rfl) (by simp; exact Ends.halt) (by first | exact True.intro | omega | (simp; done) | (simp; omega) | (simp at *; omega)) ?_ | fail))
  · rw [h2, h3, if_pos (by assumption), if_pos hb]
    (refine run_leave hc (by simp; exact Gives.mk) ?_)
    simp
  · exact ⟨j + 1, ⟨by omega, by rw [h2, h3, if_pos (by assumption), if_neg hb]⟩, by omega, run_back [0, 1, 7, 8] [] (by simp; exact Gives.mk) (by simp; exact Gives.mk) (by simp)⟩
  · rw [h2, h3, if_neg (by omega)]
    (refine run_leave hc (by simp; exact Gives.mk) ?_)
    simp
theorem sContains_ok (L : List Bs) (s : Bs) (hm : L.length ≤ 200000) : FnOk Try.prog 43 [strSl L, str s] (tru (decide (s ∈ L))) := by
  refine fnOk Try.func43 rfl (by kernel_rfl) Try.ntmps43 _ rfl (by simp) fun C hc => ?_
  repeat' (first | (first | refine ewp_seq ?_ | refine run_region hc (by simp; exact Ends.go) (by first | exact True.intro | omega | (simp; done) | (simp; omega) | (simp at *; omega)) ?_ | refine run_draw hc (by kernel_rfl) (by kernel_rfl) (by simp; exact Ends.go) (by first | exact True.intro | omega | (simp; done) | (simp; omega) | (simp at *; omega)) ?_ | refine ewp_scope ?_ | refine scopeQ_normal ?_ | refine scopeQ_ret ?_ | refine scopeQ_exit ?_ | refine ewp_skip ?_ | refine ewp_block ?_ | refine ewp_exit ?_ | refine ewp_label ?_ | refine thenQ_normal ?_ | refine thenQ_ret ?_ | refine thenQ_exit ?_ | refine blockQ_normal ?_ | refine blockQ_ret ?_ | refine blockQ_here ?_ | refine blockQ_there (by decide) ?_ | refine ewp_ret ?_ | refine opsW_nil ?_ | refine quietW_nil ?_ | (refine run_cond (by simp; exact Gives.mk) (fun hb => ?_) (fun hb => ?_) <;> (try simp at hb)) | fail) | (first | refine run_callW hc (by simp; exact Gives.mk) (by simp; exact Gives.mk) (by simp; exact Gives.mk) (by simp; exact Gives.mk) (by simp; exact Gives.mk) (fun _ => by first | exact sIndex_ok L s hm) (by simp) (by simp) ?_ | refine run_callQ hc (by simp; exact Gives.mk) (by simp; exact Gives.mk) (by simp; exact Gives.mk) (by simp; exact Gives.mk) (by simp; exact Gives.mk) (fun _ => by first | exact sIndex_ok L s hm) (by simp) (by simp) ?_ | refine run_ops hc (by simp; first | exact Ends.go | exact Ends.halt) (by decide) (by first | exact True.intro | omega | (simp; done) | (simp; omega) | (simp at *; omega)) ?_ | refine run_quiet hc (by simp; first | exact Ends.go | exact Ends.halt) (by decide) (by first | exact True.intro | omega | (simp; done) | (simp; omega) | (simp at *; omega)) ?_ | refine run_regionW hc (by simp; exact Ends.halt) (by first | exact True.intro | omega | (simp; done) | (simp; omega) | (simp at *; omega)) ?_ | refine run_drawN hc (by kernel_rfl) (by decide) (by kernel_rfl) (by simp; exact Ends.halt) (by first | exact True.intro | omega | (simp; done) | (simp; omega) | (simp at *; omega)) ?_ | fail))
  (refine run_leave hc (by simp; exact Gives.mk) ?_)
  refine res_bool ?_
  have := idxS_mem L s 0
  rw [Bool.eq_iff_iff]; simpa using this
theorem rIsOne_ok (L : List Bs) (s : Bs) (hm : L.length ≤ 200000) : FnOk Try.prog 31 [str s, strSl L] (tru (decide (s ∈ L))) := by
  refine fnOk Try.func31 rfl (by kernel_rfl) Try.ntmps31 _ rfl (by simp) fun C hc => ?_
  repeat' (first | refine ewp_seq ?_ | refine run_region hc (by simp; exact Ends.go) (by first | exact True.intro | omega | (simp; done) | (simp; omega) | (simp at *; omega)) ?_ | refine run_draw hc (by kernel_rfl) (by kernel_rfl) (by simp; exact Ends.go) (by first | exact True.intro | omega | (simp; done) | (simp; omega) | (simp at *; omega)) ?_ | refine ewp_scope ?_ | refine scopeQ_normal ?_ | refine scopeQ_ret ?_ | refine scopeQ_exit ?_ | refine ewp_skip ?_ | refine ewp_block ?_ | refine ewp_exit ?_ | refine ewp_label ?_ | refine thenQ_normal ?_ | refine thenQ_ret ?_ | refine thenQ_exit ?_ | refine blockQ_normal ?_ | refine blockQ_ret ?_ | refine blockQ_here ?_ | refine blockQ_there (by decide) ?_ | refine ewp_ret ?_ | refine opsW_nil ?_ | refine quietW_nil ?_ | (refine run_cond (by simp; exact Gives.mk) (fun hb => ?_) (fun hb => ?_) <;> (try simp at hb)) | fail)
  refine ewp_loop (fun j : Nat => ⟨[(0, .d (str s)), (1, .d (strSl L)), (5, .d (int j))], []⟩) (fun j => j ≤ L.length ∧ (s ∈ L ↔ s ∈ L.drop j)) (fun j => L.length - j) 0 (by simp) (run_keep [0, 1, 5] [] (by simp; exact Gives.mk) (by simp; exact Gives.mk)) ?_
  rintro j ⟨h1, h2⟩
  have h3 : j < L.length → (s ∈ L.drop j ↔ s = L[j]?.getD [] ∨ s ∈ L.drop (j + 1)) := fun h => by
    rw [List.drop_eq_getElem_cons h, List.getElem?_eq_getElem h, Option.getD_some, List.mem_cons]
  repeat' (first | (first | refine ewp_seq ?_ | refine run_region hc (by simp; exact Ends.go) (by first | exact True.intro | omega | (simp; done) | (simp; omega) | (simp at *; omega)) ?_ | refine run_draw hc (by kernel_rfl) (by kernel_rfl) (by simp; exact Ends.go) (by first | exact True.intro | omega | (simp; done) | (simp; omega) | (simp at *; omega)) ?_ | refine ewp_scope ?_ | refine scopeQ_normal ?_ | refine scopeQ_ret ?_ | refine scopeQ_exit ?_ | refine ewp_skip ?_ | refine ewp_block ?_ | refine ewp_exit ?_ | refine ewp_label ?_ | refine thenQ_normal ?_ | refine thenQ_ret ?_ | refine thenQ_exit ?_ | refine blockQ_normal ?_ | refine blockQ_ret ?_ | refine blockQ_here ?_ | refine blockQ_there (by decide) ?_ | refine ewp_ret ?_ | refine opsW_nil ?_ | refine quietW_nil ?_ | (refine run_cond (by simp; exact Gives.mk) (fun hb => ?_) (fun hb => ?_) <;> (try simp at hb)) | fail) | (first | refine run_callW hc (by simp; exact Gives.mk) (by simp; exact Gives.mk) (by simp; exact Gives.mk) (by simp; exact Gives.mk) (by simp; exact Gives.mk) (fun _ => by first | exact trivial) (by simp) (by simp) ?_ | refine run_callQ hc (by simp; exact Gives.mk) (by simp; exact Gives.mk) (by simp; exact Gives.mk) (by simp; exact Gives.mk) (by simp; exact Gives.mk) (fun _ => by first | exact trivial) (by simp) (by simp) ?_ | refine run_ops hc (by simp; first | exact Ends.go | exact Ends.halt) (by decide) (by first | exact True.intro | omega | (simp; done) | (simp; omega) | (simp at *; omega)) ?_ | refine run_quiet hc (by simp; first | exact Ends.go | exact Ends.halt) (by decide) (by first | exact True.intro | omega | (simp; done) | (simp; omega) | (simp at *; omega)) ?_ | refine run_regionW hc (by simp; exact Ends.halt) (by first | exact True.intro | omega | (simp; done) | (simp; omega) | (simp at *; omega)) ?_ | refine run_drawN hc (by kernel_rfl) (by decide) (by kernel_rfl) (by simp; exact Ends.halt) (by first | exact True.intro | omega | (simp; done) | (simp; omega) | (simp at *; omega)) ?_ | fail))
  · (refine run_leave hc (by simp; exact Gives.mk) ?_)
    refine res_bool ?_
    exact (decide_eq_true (h2.2 ((h3 (by assumption)).2 (.inl hb)))).symm
  · exact ⟨j + 1, ⟨by omega, by rw [h2, h3 (by assumption)]; exact ⟨fun h => h.resolve_left hb, .inr⟩⟩, by omega, run_back [0, 1, 5] [] (by simp; exact Gives.mk) (by simp; exact Gives.mk) (by simp)⟩
  · (refine run_leave hc (by simp; exact Gives.mk) ?_)
    refine res_bool ?_
    refine (decide_eq_false ?_).symm
    rw [h2, List.drop_of_length_le (by omega)]
    simp

/-! Blanks made few. -/
def tstep (a : Bs) (c : UInt8) : Bs := if isBl c then (if 0 < a.length ∧ a[a.length - 1]?.getD 0 ≠ 32 then a ++ [32] else a) else a ++ [c]
def tid (l : Bs) : Bs := if 0 < (l.foldl tstep []).length ∧ (l.foldl tstep [])[(l.foldl tstep []).length - 1]?.getD 0 = 32 then (l.foldl tstep []).take ((l.foldl tstep []).length - 1) else l.foldl tstep []
theorem tstep_len (a : Bs) (c : UInt8) : (tstep a c).length ≤ a.length + 1 := by
  unfold tstep
  split
  · split <;> simp
  · simp
theorem fold_len (l : Bs) : ∀ a : Bs, (l.foldl tstep a).length ≤ a.length + l.length := by
  induction l with
  | nil => simp
  | cons c l ih =>
    intro a
    have := ih (tstep a c)
    have := tstep_len a c
    simp; omega
theorem tid_len (l : Bs) : (tid l).length ≤ l.length := by
  have := fold_len l []
  unfold tid
  split <;> simp at this ⊢ <;> omega
theorem fold_take (l : Bs) (i : Nat) (h : i < l.length) : (l.take (i + 1)).foldl tstep [] = tstep ((l.take i).foldl tstep []) (l[i]?.getD 0) := by
  rw [List.take_add_one, List.getElem?_eq_getElem h, List.foldl_append]
  rfl
theorem trimSuffix_ok (s p : Bs) (hm : s.length ≤ 9223372036854775807) : FnOk Try.prog 45 [str s, str p] (str (Lib.trimSuffix s p)) :=
  fnOk_lits [.string (bs s), .string (bs p)] (by kernel_rfl) fun w _ => Try.strings_TrimSuffix (bs s) (bs p) w (by simpa using hm)
theorem trim_blank (s : Bs) : Lib.trimSuffix s [32] = if 0 < s.length ∧ s[s.length - 1]?.getD 0 = 32 then s.take (s.length - 1) else s := by
  unfold Lib.trimSuffix Lib.hasSuffix
  have key : ([32] : Bs).isSuffixOf s = true ↔ 0 < s.length ∧ s[s.length - 1]?.getD 0 = 32 := by
    rw [List.isSuffixOf_iff_suffix]
    constructor
    · rintro ⟨t, rfl⟩
      simp
    · rintro ⟨h1, h2⟩
      refine ⟨s.take (s.length - 1), ?_⟩
      have : s[s.length - 1] = 32 := by rw [List.getElem?_eq_getElem (by omega)] at h2; exact h2
      conv => rhs; rw [← List.take_append_drop (s.length - 1) s]
      rw [List.drop_eq_getElem_cons (by omega), this, show s.length - 1 + 1 = s.length by omega]
      simp
  by_cases h : 0 < s.length ∧ s[s.length - 1]?.getD 0 = 32
  · rw [if_pos (key.2 h), if_pos h]; rfl
  · rw [if_neg (fun h' => h (key.1 h')), if_neg h]
@[simp] theorem isRow_take (k : Nat) (m : Bs) : (∀ l, l ∈ List.take k (List.map byteRow m) → isRow l) ↔ True := by
  refine ⟨fun _ => trivial, fun _ l hl => ?_⟩
  obtain ⟨b, _, rfl⟩ := List.mem_map.1 (List.mem_of_mem_take hl)
  exact ⟨b, rfl⟩
theorem b32 (c : UInt8) : (c.toNat : Int) = 32 ↔ c = 32 := ⟨fun h => UInt8.toNat_inj.1 (by show c.toNat = 32; omega), fun h => by rw [h]; rfl⟩
theorem tidy_ok (l : Bs) (hm : l.length ≤ 100000000000) : FnOk Try.prog 27 [str l] (str (tid l)) := by
  refine fnOk Try.func27 rfl (by kernel_rfl) Try.ntmps27 _ rfl (by simp) fun C hc => ?_
  repeat' (first | refine ewp_seq ?_ | refine run_region hc (by simp; exact Ends.go) (by first | exact True.intro | omega | (simp; done) | (simp; omega) | (simp at *; omega)) ?_ | refine run_draw hc (by kernel_rfl) (by kernel_rfl) (by simp; exact Ends.go) (by first | exact True.intro | omega | (simp; done) | (simp; omega) | (simp at *; omega)) ?_ | refine ewp_scope ?_ | refine scopeQ_normal ?_ | refine scopeQ_ret ?_ | refine scopeQ_exit ?_ | refine ewp_skip ?_ | refine ewp_block ?_ | refine ewp_exit ?_ | refine ewp_label ?_ | refine thenQ_normal ?_ | refine thenQ_ret ?_ | refine thenQ_exit ?_ | refine blockQ_normal ?_ | refine blockQ_ret ?_ | refine blockQ_here ?_ | refine blockQ_there (by decide) ?_ | refine ewp_ret ?_ | refine opsW_nil ?_ | refine quietW_nil ?_ | (refine run_cond (by simp; exact Gives.mk) (fun hb => ?_) (fun hb => ?_) <;> (try simp at hb)) | fail)
  refine ewp_loop (fun x : Nat × Bs => ⟨[(0, .d (str l)), (3, .os 40000 x.2.length), (6, .d (int l.length)), (7, .d (int x.1))], [(40000, .own 5 1 (true, [.lit (.int .u8 0)]) (x.2.map byteRow))]⟩) (fun x => x.1 ≤ l.length ∧ x.2.length ≤ x.1 ∧ x.2 = (l.take x.1).foldl tstep []) (fun x => l.length - x.1) (0, []) (by simp) (run_keepB [(3, none, 40000, 5, [.lit (.int .u8 0)])] [0, 3, 6, 7] [40000] (by simp; exact Gives.mk) (by simp; exact Gives.mk) (by simp; exact Gives.mk)) ?_
  rintro ⟨i, m⟩ ⟨h1, h2, h3⟩
  simp only at h1 h2 h3 ⊢
  have hf := fun h => fold_take l i h
  rw [← h3] at hf
  repeat' (first | (first | refine ewp_seq ?_ | refine run_region hc (by simp; exact Ends.go) (by first | exact True.intro | omega | (simp; done) | (simp; omega) | (simp at *; omega)) ?_ | refine run_draw hc (by kernel_rfl) (by kernel_rfl) (by simp; exact Ends.go) (by first | exact True.intro | omega | (simp; done) | (simp; omega) | (simp at *; omega)) ?_ | refine ewp_scope ?_ | refine scopeQ_normal ?_ | refine scopeQ_ret ?_ | refine scopeQ_exit ?_ | refine ewp_skip ?_ | refine ewp_block ?_ | refine ewp_exit ?_ | refine ewp_label ?_ | refine thenQ_normal ?_ | refine thenQ_ret ?_ | refine thenQ_exit ?_ | refine blockQ_normal ?_ | refine blockQ_ret ?_ | refine blockQ_here ?_ | refine blockQ_there (by decide) ?_ | refine ewp_ret ?_ | refine opsW_nil ?_ | refine quietW_nil ?_ | (refine run_cond (by simp; exact Gives.mk) (fun hb => ?_) (fun hb => ?_) <;> (try simp at hb)) | fail) | (first | refine run_callW hc (by simp; exact Gives.mk) (by simp; exact Gives.mk) (by simp; exact Gives.mk) (by simp; exact Gives.mk) (by simp; exact Gives.mk) (fun _ => by first | exact blank_ok _) (by simp) (by simp) ?_ | refine run_callQ hc (by simp; exact Gives.mk) (by simp; exact Gives.mk) (by simp; exact Gives.mk) (by simp; exact Gives.mk) (by simp; exact Gives.mk) (fun _ => by first | exact blank_ok _) (by simp) (by simp) ?_ | refine run_ops hc (by simp; first | exact Ends.go | exact Ends.halt) (by decide) (by first | exact True.intro | omega | (simp; done) | (simp; omega) | (simp at *; omega)) ?_ | refine run_quiet hc (by simp; first | exact Ends.go | exact Ends.halt) (by decide) (by first | exact True.intro | omega | (simp; done) | (simp; omega) | (simp at *; omega)) ?_ | refine run_regionW hc (by simp; exact Ends.halt) (by first | exact True.intro | omega | (simp; done) | (simp; omega) | (simp at *; omega)) ?_ | refine run_drawN hc (by kernel_rfl) (by decide) (by kernel_rfl) (by simp; exact Ends.halt) (by first | exact True.intro | omega | (simp; done) | (simp; omega) | (simp at *; omega)) ?_ | fail))
  · exact ⟨(i + 1, m ++ [l[i]?.getD 0]), ⟨by simp; omega, by simp; omega, by simp only [hf (by assumption)]; unfold tstep; rw [if_neg (by rw [hb]; decide)]⟩, by simp; omega, run_back [0, 3, 6, 7] [40000] (by simp; exact Gives.mk) (by simp; exact Gives.mk) (by simp)⟩
  · exact ⟨(i + 1, m ++ [32]), ⟨by simp; omega, by simp; omega, by simp only [hf (by assumption)]; unfold tstep; rw [if_pos (by assumption), if_pos ⟨hb.1, fun e => hb.2 ((b32 _).2 e)⟩]⟩, by simp; omega, run_back [0, 3, 6, 7] [40000] (by simp; exact Gives.mk) (by simp; exact Gives.mk) (by simp)⟩
  · exact ⟨(i + 1, m), ⟨by simp; omega, by simp; omega, by simp only [hf (by assumption)]; unfold tstep; rw [if_pos (by assumption), if_neg (fun h => h.2 ((b32 _).1 (hb h.1)))]⟩, by simp; omega, run_back [0, 3, 6, 7] [40000] (by simp; exact Gives.mk) (by simp; exact Gives.mk) (by simp)⟩
  · have hts := trimSuffix_ok m [32] (by omega)
    have e : tid l = Lib.trimSuffix m [32] := by
      rw [trim_blank, h3, List.take_of_length_le (by omega)]
      rfl
    rw [e]
    repeat' (first | (first | refine ewp_seq ?_ | refine run_region hc (by simp; exact Ends.go) (by first | exact True.intro | omega | (simp; done) | (simp; omega) | (simp at *; omega)) ?_ | refine run_draw hc (by kernel_rfl) (by kernel_rfl) (by simp; exact Ends.go) (by first | exact True.intro | omega | (simp; done) | (simp; omega) | (simp at *; omega)) ?_ | refine ewp_scope ?_ | refine scopeQ_normal ?_ | refine scopeQ_ret ?_ | refine scopeQ_exit ?_ | refine ewp_skip ?_ | refine ewp_block ?_ | refine ewp_exit ?_ | refine ewp_label ?_ | refine thenQ_normal ?_ | refine thenQ_ret ?_ | refine thenQ_exit ?_ | refine blockQ_normal ?_ | refine blockQ_ret ?_ | refine blockQ_here ?_ | refine blockQ_there (by decide) ?_ | refine ewp_ret ?_ | refine opsW_nil ?_ | refine quietW_nil ?_ | (refine run_cond (by simp; exact Gives.mk) (fun hb => ?_) (fun hb => ?_) <;> (try simp at hb)) | fail) | (first | refine run_callW hc (by simp; exact Gives.mk) (by simp; exact Gives.mk) (by simp; exact Gives.mk) (by simp; exact Gives.mk) (by simp; exact Gives.mk) (fun _ => by first | exact hts) (by simp) (by simp) ?_ | refine run_callQ hc (by simp; exact Gives.mk) (by simp; exact Gives.mk) (by simp; exact Gives.mk) (by simp; exact Gives.mk) (by simp; exact Gives.mk) (fun _ => by first | exact hts) (by simp) (by simp) ?_ | refine run_ops hc (by simp; first | exact Ends.go | exact Ends.halt) (by decide) (by first | exact True.intro | omega | (simp; done) | (simp; omega) | (simp at *; omega)) ?_ | refine run_quiet hc (by simp; first | exact Ends.go | exact Ends.halt) (by decide) (by first | exact True.intro | omega | (simp; done) | (simp; omega) | (simp at *; omega)) ?_ | refine run_regionW hc (by simp; exact Ends.halt) (by first | exact True.intro | omega | (simp; done) | (simp; omega) | (simp at *; omega)) ?_ | refine run_drawN hc (by kernel_rfl) (by decide) (by kernel_rfl) (by simp; exact Ends.halt) (by first | exact True.intro | omega | (simp; done) | (simp; omega) | (simp at *; omega)) ?_ | fail))
    (refine run_leave hc (by simp; exact Gives.mk) ?_)
    simp
theorem rSingle_ok (l : Bs) (hm : l.length ≤ 100000000000) : FnOk Try.prog 28 [str l] (str (tid l)) := by
  refine fnOk Try.func28 rfl (by kernel_rfl) Try.ntmps28 _ rfl (by simp) fun C hc => ?_
  repeat' (first | refine ewp_seq ?_ | refine run_region hc (by simp; exact Ends.go) (by first | exact True.intro | omega | (simp; done) | (simp; omega) | (simp at *; omega)) ?_ | refine run_draw hc (by kernel_rfl) (by kernel_rfl) (by simp; exact Ends.go) (by first | exact True.intro | omega | (simp; done) | (simp; omega) | (simp at *; omega)) ?_ | refine ewp_scope ?_ | refine scopeQ_normal ?_ | refine scopeQ_ret ?_ | refine scopeQ_exit ?_ | refine ewp_skip ?_ | refine ewp_block ?_ | refine ewp_exit ?_ | refine ewp_label ?_ | refine thenQ_normal ?_ | refine thenQ_ret ?_ | refine thenQ_exit ?_ | refine blockQ_normal ?_ | refine blockQ_ret ?_ | refine blockQ_here ?_ | refine blockQ_there (by decide) ?_ | refine ewp_ret ?_ | refine opsW_nil ?_ | refine quietW_nil ?_ | (refine run_cond (by simp; exact Gives.mk) (fun hb => ?_) (fun hb => ?_) <;> (try simp at hb)) | fail)
  refine ewp_loop (fun x : Nat × Bs => ⟨[(0, .d (str l)), (3, .os 40000 x.2.length), (4, .d (int x.1))], [(40000, .own 5 1 (true, [.lit (.int .u8 0)]) (x.2.map byteRow))]⟩) (fun x => x.1 ≤ l.length ∧ x.2.length ≤ x.1 ∧ x.2 = (l.take x.1).foldl tstep []) (fun x => l.length - x.1) (0, []) (by simp) (run_keepB [(3, none, 40000, 5, [.lit (.int .u8 0)])] [0, 3, 4] [40000] (by simp; exact Gives.mk) (by simp; exact Gives.mk) (by simp; exact Gives.mk)) ?_
  rintro ⟨i, m⟩ ⟨h1, h2, h3⟩
  simp only at h1 h2 h3 ⊢
  have hf := fun h => fold_take l i h
  rw [← h3] at hf
  repeat' (first | (first | refine ewp_seq ?_ | refine run_region hc (by simp; exact Ends.go) (by first | exact True.intro | omega | (simp; done) | (simp; omega) | (simp at *; omega)) ?_ | refine run_draw hc (by kernel_rfl) (by kernel_rfl) (by simp; exact Ends.go) (by first | exact True.intro | omega | (simp; done) | (simp; omega) | (simp at *; omega)) ?_ | refine ewp_scope ?_ | refine scopeQ_normal ?_ | refine scopeQ_ret ?_ | refine scopeQ_exit ?_ | refine ewp_skip ?_ | refine ewp_block ?_ | refine ewp_exit ?_ | refine ewp_label ?_ | refine thenQ_normal ?_ | refine thenQ_ret ?_ | refine thenQ_exit ?_ | refine blockQ_normal ?_ | refine blockQ_ret ?_ | refine blockQ_here ?_ | refine blockQ_there (by decide) ?_ | refine ewp_ret ?_ | refine opsW_nil ?_ | refine quietW_nil ?_ | (refine run_cond (by simp; exact Gives.mk) (fun hb => ?_) (fun hb => ?_) <;> (try simp at hb)) | fail) | (first | refine run_callW hc (by simp; exact Gives.mk) (by simp; exact Gives.mk) (by simp; exact Gives.mk) (by simp; exact Gives.mk) (by simp; exact Gives.mk) (fun _ => by first | exact rBlank_ok _) (by simp) (by simp) ?_ | refine run_callQ hc (by simp; exact Gives.mk) (by simp; exact Gives.mk) (by simp; exact Gives.mk) (by simp; exact Gives.mk) (by simp; exact Gives.mk) (fun _ => by first | exact rBlank_ok _) (by simp) (by simp) ?_ | refine run_ops hc (by simp; first | exact Ends.go | exact Ends.halt) (by decide) (by first | exact True.intro | omega | (simp; done) | (simp; omega) | (simp at *; omega)) ?_ | refine run_quiet hc (by simp; first | exact Ends.go | exact Ends.halt) (by decide) (by first | exact True.intro | omega | (simp; done) | (simp; omega) | (simp at *; omega)) ?_ | refine run_regionW hc (by simp; exact Ends.halt) (by first | exact True.intro | omega | (simp; done) | (simp; omega) | (simp at *; omega)) ?_ | refine run_drawN hc (by kernel_rfl) (by decide) (by kernel_rfl) (by simp; exact Ends.halt) (by first | exact True.intro | omega | (simp; done) | (simp; omega) | (simp at *; omega)) ?_ | fail))
  · exact ⟨(i + 1, m ++ [l[i]?.getD 0]), ⟨by simp; omega, by simp; omega, by simp only [hf (by assumption)]; unfold tstep; rw [if_neg (by rw [hb]; decide)]⟩, by simp; omega, run_back [0, 3, 4] [40000] (by simp; exact Gives.mk) (by simp; exact Gives.mk) (by simp)⟩
  · exact ⟨(i + 1, m ++ [32]), ⟨by simp; omega, by simp; omega, by simp only [hf (by assumption)]; unfold tstep; rw [if_pos (by assumption), if_pos ⟨hb.1, fun e => hb.2 ((b32 _).2 e)⟩]⟩, by simp; omega, run_back [0, 3, 4] [40000] (by simp; exact Gives.mk) (by simp; exact Gives.mk) (by simp)⟩
  · exact ⟨(i + 1, m), ⟨by simp; omega, by simp; omega, by simp only [hf (by assumption)]; unfold tstep; rw [if_pos (by assumption), if_neg (fun h => h.2 ((b32 _).1 (hb h.1)))]⟩, by simp; omega, run_back [0, 3, 4] [40000] (by simp; exact Gives.mk) (by simp; exact Gives.mk) (by simp)⟩
  · have e : tid l = m.take (m.length - 1) := by
      have e : m = l.foldl tstep [] := by rw [h3, List.take_of_length_le (by omega)]
      unfold tid
      rw [← e, if_pos ⟨hb.1, (b32 _).1 hb.2⟩]
    rw [e]
    repeat' (first | (first | refine ewp_seq ?_ | refine run_region hc (by simp; exact Ends.go) (by first | exact True.intro | omega | (simp; done) | (simp; omega) | (simp at *; omega)) ?_ | refine run_draw hc (by kernel_rfl) (by kernel_rfl) (by simp; exact Ends.go) (by first | exact True.intro | omega | (simp; done) | (simp; omega) | (simp at *; omega)) ?_ | refine ewp_scope ?_ | refine scopeQ_normal ?_ | refine scopeQ_ret ?_ | refine scopeQ_exit ?_ | refine ewp_skip ?_ | refine ewp_block ?_ | refine ewp_exit ?_ | refine ewp_label ?_ | refine thenQ_normal ?_ | refine thenQ_ret ?_ | refine thenQ_exit ?_ | refine blockQ_normal ?_ | refine blockQ_ret ?_ | refine blockQ_here ?_ | refine blockQ_there (by decide) ?_ | refine ewp_ret ?_ | refine opsW_nil ?_ | refine quietW_nil ?_ | (refine run_cond (by simp; exact Gives.mk) (fun hb => ?_) (fun hb => ?_) <;> (try simp at hb)) | fail) | (first | refine run_callW hc (by simp; exact Gives.mk) (by simp; exact Gives.mk) (by simp; exact Gives.mk) (by simp; exact Gives.mk) (by simp; exact Gives.mk) (fun _ => by first | exact trivial) (by simp) (by simp) ?_ | refine run_callQ hc (by simp; exact Gives.mk) (by simp; exact Gives.mk) (by simp; exact Gives.mk) (by simp; exact Gives.mk) (by simp; exact Gives.mk) (fun _ => by first | exact trivial) (by simp) (by simp) ?_ | refine run_ops hc (by simp; first | exact Ends.go | exact Ends.halt) (by decide) (by first | exact True.intro | omega | (simp; done) | (simp; omega) | (simp at *; omega)) ?_ | refine run_quiet hc (by simp; first | exact Ends.go | exact Ends.halt) (by decide) (by first | exact True.intro | omega | (simp; done) | (simp; omega) | (simp at *; omega)) ?_ | refine run_regionW hc (by simp; exact Ends.halt) (by first | exact True.intro | omega | (simp; done) | (simp; omega) | (simp at *; omega)) ?_ | refine run_drawN hc (by kernel_rfl) (by decide) (by kernel_rfl) (by simp; exact Ends.halt) (by first | exact True.intro | omega | (simp; done) | (simp; omega) | (simp at *; omega)) ?_ | fail))
    (refine run_leave hc (by simp; exact Gives.mk) ?_)
    simp
  · have e : tid l = m := by
      have e : m = l.foldl tstep [] := by rw [h3, List.take_of_length_le (by omega)]
      unfold tid
      rw [← e, if_neg (fun h => hb h.1 ((b32 _).2 h.2))]
    rw [e]
    (refine run_leave hc (by simp; exact Gives.mk) ?_)
    simp

/-! Joined. -/
theorem rd_sl_str {w : World} {ok : Nat → Prop} {L : List Bs} {v : Value} (h : RdD w ok (strSl L) v) :
    ∃ A cap, v = .slice A L.length cap ∧ L.length ≤ cap ∧ (0 < L.length → ∃ b off, A = some ⟨b, off, none⟩ ∧ ok b ∧ ∀ (j : Nat) x, (L.map bs)[j]? = some x → w.cell? ⟨b, off + j, none⟩ = some (.string x)) := by
  generalize hd : strSl L = d at h
  cases h with
  | sl n f A cap size b off g hc hm hA hl hg h =>
    obtain ⟨rfl, rfl⟩ := D.sl.inj hd
    refine ⟨A, cap, rfl, hc, fun h0 => ⟨b, off, (hA h0).1, (hA h0).2, fun j x hx => ?_⟩⟩
    have hj : j < L.length := by have := (List.getElem?_eq_some_iff.1 hx).1; simpa using this
    have hs : size = 1 := by rw [← hl j hj]; simp [hj]
    subst hs
    have h1 := hg j 0 hj (by omega)
    have h2 := h j 0 (str (L[j]?.getD [])) hj (by simp)
    rw [List.getElem?_map, List.getElem?_eq_getElem hj] at hx
    rw [List.getElem?_eq_getElem hj] at h2
    have h3 : g j 0 = .string x := by
      generalize g j 0 = y at h2
      cases h2
      cases hx
      rfl
    rw [h3] at h1
    simpa using h1
  | _ => cases hd
theorem join_ok (L : List Bs) (s : Bs) (hL : L.length ≤ 200000) (hlen : (Lib.join L s).length ≤ 140737488355328) : FnOk Try.prog 30 [strSl L, str s] (str (Lib.join L s)) := by
  refine ⟨by kernel_rfl, fun ok w vs hk hs ha => ?_⟩
  obtain ⟨hn, hr⟩ := ha
  obtain ⟨v0, e0, r0⟩ := hr 0 _ rfl
  obtain ⟨v1, e1, r1⟩ := hr 1 _ rfl
  have hv1 : v1 = .string (bs s) := by cases r1; rfl
  subst hv1
  obtain ⟨A, cap, rfl, hcap, hb⟩ := rd_sl_str r0
  have hvs : vs = #[.slice A L.length cap, .string (bs s)] := by
    apply Array.ext'
    apply List.ext_getElem?
    intro k
    match k with
    | 0 => simpa using e0
    | 1 => simpa using e1
    | k + 2 =>
      rw [Array.getElem?_toList, Array.getElem?_eq_none (by rw [hn]; simp)]
      simp
  subst hvs
  rcases Nat.eq_zero_or_pos L.length with h0 | h0
  · obtain rfl := List.length_eq_zero_iff.1 h0
    exact (Try.strings_Join_none A cap (bs s) w).mono fun e w' ⟨he, hw⟩ => ⟨_, he, hw ▸ Below.refl _ _, .lit _⟩
  · obtain ⟨b, off, rfl, hob, hc⟩ := hb h0
    have e1 : (L.map bs).map (·.data.toList) = L := by rw [List.map_map]; exact List.map_id'' (fun _ => rfl) L
    have h := Try.strings_Join b off cap (L.map bs) (bs s) w hc (hk b hob) (by simp; omega) (by simpa using hcap) (by rw [e1]; exact hlen)
    rw [e1, List.length_map] at h
    exact h.mono fun e w' ⟨he, hw⟩ => ⟨_, he, hw, .lit _⟩

/-! What stands behind the beginning of a tag. -/
def bhd (m : List Tk) (i : Nat) (L : List Bs) : Bool := decide ((m[i]?.getD .none).kind = 1) && decide (0 < i) && decide ((m[i - 1]?.getD .none).kind = 2) && decide ((m[i - 1]?.getD .none).name ∈ L)
theorem behind_ok (m : List Tk) (i : Nat) (L : List Bs) (hi : i < m.length) (hm : m.length ≤ 20000) (hL : L.length ≤ 200000) : FnOk Try.prog 26 [tokSu m, int i, strSl L] (tru (bhd m i L)) := by
  refine fnOk Try.func26 rfl (by kernel_rfl) Try.ntmps26 _ rfl (by simp) fun C hc => ?_
  by_cases h0 : 0 < i
  · have e : ((i : Int) - 1).toNat = i - 1 := by omega
    repeat' (first | (first | refine ewp_seq ?_ | refine run_region hc (by simp; exact Ends.go) (by first | exact True.intro | omega | (simp; done) | (simp; omega) | (simp at *; omega)) ?_ | refine run_draw hc (by kernel_rfl) (by kernel_rfl) (by simp; exact Ends.go) (by first | exact True.intro | omega | (simp; done) | (simp; omega) | (simp at *; omega)) ?_ | refine ewp_scope ?_ | refine scopeQ_normal ?_ | refine scopeQ_ret ?_ | refine scopeQ_exit ?_ | refine ewp_skip ?_ | refine ewp_block ?_ | refine ewp_exit ?_ | refine ewp_label ?_ | refine thenQ_normal ?_ | refine thenQ_ret ?_ | refine thenQ_exit ?_ | refine blockQ_normal ?_ | refine blockQ_ret ?_ | refine blockQ_here ?_ | refine blockQ_there (by decide) ?_ | refine ewp_ret ?_ | refine opsW_nil ?_ | refine quietW_nil ?_ | (refine run_cond (by simp; exact Gives.mk) (fun hb => ?_) (fun hb => ?_) <;> (try simp at hb)) | fail) | (first | refine run_callW hc (by simp; exact Gives.mk) (by simp; exact Gives.mk) (by simp; exact Gives.mk) (by simp; exact Gives.mk) (by simp; exact Gives.mk) (fun _ => by first | exact sContains_ok L _ hL) (by simp) (by simp) ?_ | refine run_callQ hc (by simp; exact Gives.mk) (by simp; exact Gives.mk) (by simp; exact Gives.mk) (by simp; exact Gives.mk) (by simp; exact Gives.mk) (fun _ => by first | exact sContains_ok L _ hL) (by simp) (by simp) ?_ | refine run_ops hc (by simp; first | exact Ends.go | exact Ends.halt) (by decide) (by first | exact True.intro | omega | (simp; done) | (simp; omega) | (simp at *; omega)) ?_ | refine run_quiet hc (by simp; first | exact Ends.go | exact Ends.halt) (by decide) (by first | exact True.intro | omega | (simp; done) | (simp; omega) | (simp at *; omega)) ?_ | refine run_regionW hc (by simp; exact Ends.halt) (by first | exact True.intro | omega | (simp; done) | (simp; omega) | (simp at *; omega)) ?_ | refine run_drawN hc (by kernel_rfl) (by decide) (by kernel_rfl) (by simp; exact Ends.halt) (by first | exact True.intro | omega | (simp; done) | (simp; omega) | (simp at *; omega)) ?_ | fail))
    (refine run_leave hc (by simp; exact Gives.mk) ?_)
    refine res_bool ?_
    rw [Bool.eq_iff_iff]; simp [bhd, h0]; omega
  · obtain rfl : i = 0 := by omega
    repeat' (first | (first | refine ewp_seq ?_ | refine run_region hc (by simp; exact Ends.go) (by first | exact True.intro | omega | (simp; done) | (simp; omega) | (simp at *; omega)) ?_ | refine run_draw hc (by kernel_rfl) (by kernel_rfl) (by simp; exact Ends.go) (by first | exact True.intro | omega | (simp; done) | (simp; omega) | (simp at *; omega)) ?_ | refine ewp_scope ?_ | refine scopeQ_normal ?_ | refine scopeQ_ret ?_ | refine scopeQ_exit ?_ | refine ewp_skip ?_ | refine ewp_block ?_ | refine ewp_exit ?_ | refine ewp_label ?_ | refine thenQ_normal ?_ | refine thenQ_ret ?_ | refine thenQ_exit ?_ | refine blockQ_normal ?_ | refine blockQ_ret ?_ | refine blockQ_here ?_ | refine blockQ_there (by decide) ?_ | refine ewp_ret ?_ | refine opsW_nil ?_ | refine quietW_nil ?_ | (refine run_cond (by simp; exact Gives.mk) (fun hb => ?_) (fun hb => ?_) <;> (try simp at hb)) | fail) | (first | refine run_callW hc (by simp; exact Gives.mk) (by simp; exact Gives.mk) (by simp; exact Gives.mk) (by simp; exact Gives.mk) (by simp; exact Gives.mk) (fun _ => by first | exact sContains_ok L _ hL) (by simp) (by simp) ?_ | refine run_callQ hc (by simp; exact Gives.mk) (by simp; exact Gives.mk) (by simp; exact Gives.mk) (by simp; exact Gives.mk) (by simp; exact Gives.mk) (fun _ => by first | exact sContains_ok L _ hL) (by simp) (by simp) ?_ | refine run_ops hc (by simp; first | exact Ends.go | exact Ends.halt) (by decide) (by first | exact True.intro | omega | (simp; done) | (simp; omega) | (simp at *; omega)) ?_ | refine run_quiet hc (by simp; first | exact Ends.go | exact Ends.halt) (by decide) (by first | exact True.intro | omega | (simp; done) | (simp; omega) | (simp at *; omega)) ?_ | refine run_regionW hc (by simp; exact Ends.halt) (by first | exact True.intro | omega | (simp; done) | (simp; omega) | (simp at *; omega)) ?_ | refine run_drawN hc (by kernel_rfl) (by decide) (by kernel_rfl) (by simp; exact Ends.halt) (by first | exact True.intro | omega | (simp; done) | (simp; omega) | (simp at *; omega)) ?_ | fail))
    (refine run_leave hc (by simp; exact Gives.mk) ?_)
    refine res_bool ?_
    rw [Bool.eq_iff_iff]; simp [bhd]
end Go.Proofs.Ytgebkjngnfdeiaa
