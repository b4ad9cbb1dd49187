/-
  PAGE: what the reference says; PageSaysMatchSpec. (WITH run_drawN.)
-/
import Derived.Test.YtgebkjngnfdeiaaSayB
set_option linter.unusedSimpArgs false
set_option linter.unusedVariables false
namespace Go.Proofs.Ytgebkjngnfdeiaa
open Go.Lw Go.RowKit Go.ChangeShapes Go.WideShapes Go.ChangeAt
set_option maxRecDepth 100000
set_option maxHeartbeats 1000000

/-! Two texts that stand side by side: the first one is raw. -/
def NoAdj (m : List Tk) : Prop := ∀ i, (m[i]?.getD .none).kind = 1 → (m[i + 1]?.getD .none).kind = 1 → 0 < i ∧ (m[i - 1]?.getD .none).kind = 2 ∧ rawName (m[i - 1]?.getD .none).name = true
def LastOk (m : List Tk) : Prop := (m[m.length - 1]?.getD .none).kind = 1 → 2 ≤ m.length ∧ (m[m.length - 2]?.getD .none).kind = 2 ∧ rawName (m[m.length - 2]?.getD .none).name = true
theorem noAdj_nil : NoAdj [] := fun i h => by simp at h
theorem lastOk_nil : LastOk [] := fun h => by simp at h
theorem noAdj_push {m : List Tk} {t : Tk} (h : NoAdj m) (hl : t.kind = 1 → 0 < m.length → LastOk m) : NoAdj (m ++ [t]) := by
  intro i h1 h2
  by_cases hi : i + 1 < m.length
  · rw [List.getElem?_append_left (by omega)] at h1 h2
    have := h i h1 h2
    rw [List.getElem?_append_left (by omega)]
    exact this
  · by_cases hi2 : i + 1 = m.length
    · rw [List.getElem?_append_left (by omega)] at h1
      rw [List.getElem?_append_right (by omega), hi2] at h2
      simp only [Nat.sub_self, List.getElem?_cons_zero, Option.getD_some] at h2
      have h3 := hl h2 (by omega)
      unfold LastOk at h3
      rw [show m.length - 1 = i by omega, show m.length - 2 = i - 1 by omega] at h3
      have h4 := h3 h1
      rw [List.getElem?_append_left (by omega)]
      exact ⟨by omega, h4.2⟩
    · rw [List.getElem?_append_right (by omega), List.getElem?_eq_none (by simp; omega)] at h2
      simp at h2
theorem lastOk_push {m : List Tk} {t : Tk} (h : t.kind = 1 → 0 < m.length ∧ (m[m.length - 1]?.getD .none).kind = 2 ∧ rawName (m[m.length - 1]?.getD .none).name = true) : LastOk (m ++ [t]) := by
  intro h1
  rw [List.length_append, List.getElem?_append_right (by simp)] at h1
  simp at h1
  have h2 := h h1
  have e : (m ++ [t]).length - 2 = m.length - 1 := by simp
  rw [e, List.getElem?_append_left (by omega)]
  exact ⟨by simp; omega, h2.2⟩
theorem txt_push {m : List Tk} {a b : Nat} (h : NoAdj m) (hl : LastOk m) : NoAdj (m ++ txt a b) := by
  unfold txt
  split
  · exact noAdj_push h (fun _ _ => hl)
  · simpa using h
theorem tok_kind {l : Bs} {i : Nat} {t : Tk} (h : tok l i = some t) : t.kind ≠ 1 := by
  unfold tok at h
  split at h
  · cases h; simp
  · split at h
    · cases h; simp
    · split at h
      · cases h; simp
      · cases h
theorem run_noAdj (l : Bs) : ∀ (n fr i : Nat) (m : List Tk), l.length - i ≤ n → i ≤ l.length → NoAdj m → LastOk m → NoAdj (run l fr i m) := by
  intro n
  induction n with
  | zero =>
    intro fr i m h1 h2 h3 h4
    rw [run_end (by omega)]
    exact txt_push h3 h4
  | succ n ih =>
    intro fr i m h1 h2 h3 h4
    by_cases hc : i < l.length ∧ m.length ≤ 20000
    · cases ht : tok l i with
      | none =>
        rw [run_none hc.1 hc.2 ht]
        exact ih fr (i + 1) m (by omega) (by omega) h3 h4
      | some t =>
        rw [run_some hc.1 hc.2 ht]
        have hle := tok_le h2 ht
        have hre := rawE_le l t.to t.name hle.2.1
        have hk := tok_kind ht
        have p1 : NoAdj (m ++ txt fr i ++ [t]) := noAdj_push (txt_push h3 h4) (fun h => absurd h hk)
        have p2 : LastOk (m ++ txt fr i ++ [t]) := lastOk_push (fun h => absurd h hk)
        split
        · rename_i hb
          have hb' : t.kind = 2 ∧ rawName t.name = true := by
            simp only [rawB, Bool.and_eq_true, decide_eq_true_eq] at hb
            exact hb.1
          rw [show m ++ txt fr i ++ t :: txt t.to (rawE l t.to t.name) = (m ++ txt fr i ++ [t]) ++ txt t.to (rawE l t.to t.name) by simp]
          refine ih _ _ _ (by omega) hre.2 (txt_push p1 p2) ?_
          rcases Nat.lt_or_ge t.to (rawE l t.to t.name) with hlt | hge
          · rw [txt_enc _ _ hlt]
            refine lastOk_push (fun _ => ⟨by simp; omega, ?_⟩)
            rw [List.length_append, List.getElem?_append_right (by simp)]
            simpa using hb'
          · rw [txt_no t.to (rawE l t.to t.name) (by omega), List.append_nil]; exact p2
        · exact ih _ _ _ (by omega) hle.2.1 p1 p2
    · rw [run_end hc]
      exact txt_push h3 h4
theorem rawName_mem (n : Bs) : rawName n = true → n ∈ raws := by
  intro h
  simp only [rawName, Bool.or_eq_true, decide_eq_true_eq] at h
  rcases h with (h | h) | h <;> rw [h] <;> simp [raws, ttl]
theorem incl_adj {m : List Tk} (h : NoAdj m) (i : Nat) (h1 : incl m i = true) (h2 : incl m (i + 1) = true) : False := by
  simp only [incl, Bool.and_eq_true, decide_eq_true_eq, Bool.not_eq_true'] at h1 h2
  have h3 := h i h1.1 h2.1
  have : bhd m i raws = true := by
    simp only [bhd, Bool.and_eq_true, decide_eq_true_eq]
    exact ⟨⟨⟨h1.1, h3.1⟩, h3.2.1⟩, rawName_mem _ h3.2.2⟩
  rw [this] at h1
  cases h1.2
theorem tid_pre (b : Bool) (s : Bs) : tid ((if b = true then [32] else []) ++ s) = tid s := by
  cases b
  · rfl
  · have : List.foldl tstep [] ([32] ++ s) = List.foldl tstep [] s := by
      rw [List.foldl_append]
      rfl
    unfold tid
    simp only [if_true]
    rw [this]
abbrev saidS (l : Bs) (m : List Tk) (pre : Bool) (j : Nat) : Bs := (if pre = true then [32] else []) ++ Lib.join (sdT l m j) [32]
theorem said_step {l : Bs} {m : List Tk} (hN : NoAdj m) {j last : Nat} {pre : Bool} (h1 : sdT l m j = [] → last = 0 ∧ pre = false) (h2 : sdT l m j ≠ [] → last < j ∧ incl m last = true) (hi : incl m j = true) :
    ∃ pre', saidS l m pre' (j + 1) = saidS l m pre j ++ (if last + 1 < j then [32] else []) ++ tx l m j := by
  have e : sdT l m (j + 1) = sdT l m j ++ [tx l m j] := by rw [sdT, if_pos hi]
  unfold saidS
  rw [e, join_push]
  by_cases h : sdT l m j = []
  · obtain ⟨rfl, rfl⟩ := h1 h
    rw [if_pos h, h]
    refine ⟨decide (0 + 1 < j), ?_⟩
    simp [Lib.join]
  · obtain ⟨h3, h4⟩ := h2 h
    have h5 : last + 1 < j := by
      by_cases h6 : last + 1 = j
      · exact (incl_adj hN last h4 (by rw [h6]; exact hi)).elim
      · omega
    rw [if_neg h, if_pos h5]
    exact ⟨pre, by simp⟩
theorem rSaid_ok (l : Bs) (hm : l.length ≤ maxLen) : FnOk Try.prog 18 [byS l] (if l.length ≤ 200000 ∧ (run l 0 0 []).length ≤ 20000 then .tup [str (tid (Lib.join (sdT l (run l 0 0 []) (run l 0 0 []).length) [32])), int 0] else .tup [str [], int 2]) := by
  have hC := rCheckedU_ok l hm
  refine fnOk Try.func18 rfl (by kernel_rfl) Try.ntmps18 _ rfl (by simp) fun C hc => ?_
  unfold maxLen at hm
  by_cases h : l.length ≤ 200000 ∧ (run l 0 0 []).length ≤ 20000
  rotate_left
  · rw [if_neg h] at hC ⊢
    repeat' (first | (first | refine ewp_seq ?_ | refine run_region hc (by simp; exact Ends.go) (by first | exact True.intro | omega | (simp; done) | (simp; omega) | (simp at *; omega)) ?_ | refine run_draw hc (by kernel_rfl) (by kernel_rfl) (by simp; exact Ends.go) (by first | exact True.intro | omega | (simp; done) | (simp; omega) | (simp at *; omega)) ?_ | refine ewp_scope ?_ | refine scopeQ_normal ?_ | refine scopeQ_ret ?_ | refine scopeQ_exit ?_ | refine ewp_skip ?_ | refine ewp_block ?_ | refine ewp_exit ?_ | refine ewp_label ?_ | refine thenQ_normal ?_ | refine thenQ_ret ?_ | refine thenQ_exit ?_ | refine blockQ_normal ?_ | refine blockQ_ret ?_ | refine blockQ_here ?_ | refine blockQ_there (by decide) ?_ | refine ewp_ret ?_ | refine opsW_nil ?_ | refine quietW_nil ?_ | (refine run_cond (by simp; exact Gives.mk) (fun hb => ?_) (fun hb => ?_) <;> (try simp at hb)) | fail) | (first | refine run_callW hc (by simp; exact Gives.mk) (by simp; exact Gives.mk) (by simp; exact Gives.mk) (by simp; exact Gives.mk) (by simp; exact Gives.mk) (fun _ => by first | exact hC) (by simp) (by simp) ?_ | refine run_callQ hc (by simp; exact Gives.mk) (by simp; exact Gives.mk) (by simp; exact Gives.mk) (by simp; exact Gives.mk) (by simp; exact Gives.mk) (fun _ => by first | exact hC) (by simp) (by simp) ?_ | refine run_ops hc (by simp; first | exact Ends.go | exact Ends.halt) (by decide) (by first | exact True.intro | omega | (simp; done) | (simp; omega) | (simp at *; omega)) ?_ | refine run_quiet hc (by simp; first | exact Ends.go | exact Ends.halt) (by decide) (by first | exact True.intro | omega | (simp; done) | (simp; omega) | (simp at *; omega)) ?_ | refine run_regionW hc (by simp; exact Ends.halt) (by first | exact True.intro | omega | (simp; done) | (simp; omega) | (simp at *; omega)) ?_ | refine run_drawN hc (by kernel_rfl) (by decide) (by kernel_rfl) (by simp; exact Ends.halt) (by first | exact True.intro | omega | (simp; done) | (simp; omega) | (simp at *; omega)) ?_ | fail))
    all_goals try contradiction
    (refine run_leave hc (by simp; exact Gives.mk) ?_)
    simp
  have hS := (run_side l h.1 l.length 0 0 [] (by omega) (Nat.le_refl _) (by omega) rfl h.2).get.2
  have hN := run_noAdj l l.length 0 0 [] (by omega) (by omega) noAdj_nil lastOk_nil
  rw [if_pos h] at hC ⊢
  have hml := h.2
  generalize run l 0 0 [] = m at hC hS hml hN ⊢
  repeat' (first | (first | refine ewp_seq ?_ | refine run_region hc (by simp; exact Ends.go) (by first | exact True.intro | omega | (simp; done) | (simp; omega) | (simp at *; omega)) ?_ | refine run_draw hc (by kernel_rfl) (by kernel_rfl) (by simp; exact Ends.go) (by first | exact True.intro | omega | (simp; done) | (simp; omega) | (simp at *; omega)) ?_ | refine ewp_scope ?_ | refine scopeQ_normal ?_ | refine scopeQ_ret ?_ | refine scopeQ_exit ?_ | refine ewp_skip ?_ | refine ewp_block ?_ | refine ewp_exit ?_ | refine ewp_label ?_ | refine thenQ_normal ?_ | refine thenQ_ret ?_ | refine thenQ_exit ?_ | refine blockQ_normal ?_ | refine blockQ_ret ?_ | refine blockQ_here ?_ | refine blockQ_there (by decide) ?_ | refine ewp_ret ?_ | refine opsW_nil ?_ | refine quietW_nil ?_ | (refine run_cond (by simp; exact Gives.mk) (fun hb => ?_) (fun hb => ?_) <;> (try simp at hb)) | fail) | (first | refine run_callW hc (by simp; exact Gives.mk) (by simp; exact Gives.mk) (by simp; exact Gives.mk) (by simp; exact Gives.mk) (by simp; exact Gives.mk) (fun _ => by first | exact hC) (by simp) (by simp) ?_ | refine run_callQ hc (by simp; exact Gives.mk) (by simp; exact Gives.mk) (by simp; exact Gives.mk) (by simp; exact Gives.mk) (by simp; exact Gives.mk) (fun _ => by first | exact hC) (by simp) (by simp) ?_ | refine run_ops hc (by simp; first | exact Ends.go | exact Ends.halt) (by decide) (by first | exact True.intro | omega | (simp; done) | (simp; omega) | (simp at *; omega)) ?_ | refine run_quiet hc (by simp; first | exact Ends.go | exact Ends.halt) (by decide) (by first | exact True.intro | omega | (simp; done) | (simp; omega) | (simp at *; omega)) ?_ | refine run_regionW hc (by simp; exact Ends.halt) (by first | exact True.intro | omega | (simp; done) | (simp; omega) | (simp at *; omega)) ?_ | refine run_drawN hc (by kernel_rfl) (by decide) (by kernel_rfl) (by simp; exact Ends.halt) (by first | exact True.intro | omega | (simp; done) | (simp; omega) | (simp at *; omega)) ?_ | fail))
  all_goals try contradiction
  refine ewp_loop (fun x : Nat × Nat × Bs => ⟨[(0, .d (byS l)), (4, .d (tokSu m)), (6, .d (str x.2.2)), (7, .d (int x.2.1)), (8, .d (int x.1))], []⟩) (fun x => x.1 ≤ m.length ∧ x.2.1 ≤ x.1 ∧ ∃ pre, x.2.2 = saidS l m pre x.1 ∧ (sdT l m x.1 = [] → x.2.1 = 0 ∧ pre = false) ∧ (sdT l m x.1 ≠ [] → x.2.1 < x.1 ∧ incl m x.2.1 = true)) (fun x => m.length - x.1) (0, 0, []) ⟨by simp, by simp, false, by simp [saidS, sdT, Lib.join], by simp [sdT], by simp [sdT]⟩ (run_keep [0, 4, 6, 7, 8] [] (by simp; exact Gives.mk) (by simp; exact Gives.mk)) ?_
  rintro ⟨j, last, s⟩ ⟨h1, h2, pre, h3, h4, h5⟩
  simp only at h1 h2 h3 h4 h5 ⊢
  have hbd := sdT_join l m hS h.1 j h1
  have hsl : s.length ≤ 1 + 200001 * j := by
    rw [h3]
    unfold saidS
    cases pre <;> simp <;> omega
  by_cases hjm : j < m.length
  rotate_left
  · have hje : j = m.length := by omega
    have htd := rSingle_ok s (by omega)
    have e : tid s = tid (Lib.join (sdT l m m.length) [32]) := by rw [h3, tid_pre, hje]
    rw [e] at htd
    repeat' (first | (first | refine ewp_seq ?_ | refine run_region hc (by simp; exact Ends.go) (by first | exact True.intro | omega | (simp; done) | (simp; omega) | (simp at *; omega)) ?_ | refine run_draw hc (by kernel_rfl) (by kernel_rfl) (by simp; exact Ends.go) (by first | exact True.intro | omega | (simp; done) | (simp; omega) | (simp at *; omega)) ?_ | refine ewp_scope ?_ | refine scopeQ_normal ?_ | refine scopeQ_ret ?_ | refine scopeQ_exit ?_ | refine ewp_skip ?_ | refine ewp_block ?_ | refine ewp_exit ?_ | refine ewp_label ?_ | refine thenQ_normal ?_ | refine thenQ_ret ?_ | refine thenQ_exit ?_ | refine blockQ_normal ?_ | refine blockQ_ret ?_ | refine blockQ_here ?_ | refine blockQ_there (by decide) ?_ | refine ewp_ret ?_ | refine opsW_nil ?_ | refine quietW_nil ?_ | (refine run_cond (by simp; exact Gives.mk) (fun hb => ?_) (fun hb => ?_) <;> (try simp at hb)) | fail) | (first | refine run_callW hc (by simp; exact Gives.mk) (by simp; exact Gives.mk) (by simp; exact Gives.mk) (by simp; exact Gives.mk) (by simp; exact Gives.mk) (fun _ => by first | exact htd) (by simp) (by simp) ?_ | refine run_callQ hc (by simp; exact Gives.mk) (by simp; exact Gives.mk) (by simp; exact Gives.mk) (by simp; exact Gives.mk) (by simp; exact Gives.mk) (fun _ => by first | exact htd) (by simp) (by simp) ?_ | refine run_ops hc (by simp; first | exact Ends.go | exact Ends.halt) (by decide) (by first | exact True.intro | omega | (simp; done) | (simp; omega) | (simp at *; omega)) ?_ | refine run_quiet hc (by simp; first | exact Ends.go | exact Ends.halt) (by decide) (by first | exact True.intro | omega | (simp; done) | (simp; omega) | (simp at *; omega)) ?_ | refine run_regionW hc (by simp; exact Ends.halt) (by first | exact True.intro | omega | (simp; done) | (simp; omega) | (simp at *; omega)) ?_ | refine run_drawN hc (by kernel_rfl) (by decide) (by kernel_rfl) (by simp; exact Ends.halt) (by first | exact True.intro | omega | (simp; done) | (simp; omega) | (simp at *; omega)) ?_ | fail))
    all_goals try contradiction
    (refine run_leave hc (by simp; exact Gives.mk) ?_)
    simp
  have hj := hS j hjm
  have hmt := rMeant_ok (sub l (m[j]?.getD .none).fr (m[j]?.getD .none).to) (by rw [sub_len]; omega)
  have hml2 := meant_len (sub l (m[j]?.getD .none).fr (m[j]?.getD .none).to)
  rw [sub_len] at hml2
  have hsd : sdT l m (j + 1) = if incl m j = true then sdT l m j ++ [tx l m j] else sdT l m j := rfl
  have hone := rIsOne_ok raws (m[j - 1]?.getD .none).name (by simp [raws])
  have hno : incl m j = false → ∃ pre', s = saidS l m pre' (j + 1) ∧ (sdT l m (j + 1) = [] → last = 0 ∧ pre' = false) ∧ (sdT l m (j + 1) ≠ [] → last < j + 1 ∧ incl m last = true) := fun hi => by
    rw [hi] at hsd
    refine ⟨pre, ?_, ?_, ?_⟩
    · rw [h3]; unfold saidS; rw [hsd]; rfl
    · rw [hsd]; exact h4
    · rw [hsd]; exact fun h => ⟨by have := (h5 h).1; omega, (h5 h).2⟩
  have hyes : incl m j = true → ∃ pre', s ++ (if last + 1 < j then [32] else []) ++ tx l m j = saidS l m pre' (j + 1) ∧ (sdT l m (j + 1) = [] → j = 0 ∧ pre' = false) ∧ (sdT l m (j + 1) ≠ [] → j < j + 1 ∧ incl m j = true) := fun hi => by
    obtain ⟨pre', hp⟩ := said_step hN h4 h5 hi
    rw [hi, if_pos rfl] at hsd
    refine ⟨pre', ?_, ?_, ?_⟩
    · rw [hp, h3]
    · rw [hsd]; simp
    · exact fun _ => ⟨by omega, hi⟩
  by_cases hk : (m[j]?.getD .none).kind = 1
  rotate_left
  · have hk1 : (((m[j]?.getD .none).kind : Int) == 1) = false := by simp; omega
    have hk2 : (((m[j]?.getD .none).kind : Int) != 1) = true := by simp; omega
    have hi : incl m j = false := by simp [incl, hk]
    repeat' (first | (first | refine ewp_seq ?_ | refine run_region hc (by simp [hk1, hk2, hk]; exact Ends.go) (by first | exact True.intro | omega | (simp; done) | (simp; omega) | (simp at *; omega)) ?_ | refine run_draw hc (by kernel_rfl) (by kernel_rfl) (by simp [hk1, hk2, hk]; exact Ends.go) (by first | exact True.intro | omega | (simp; done) | (simp; omega) | (simp at *; omega)) ?_ | refine ewp_scope ?_ | refine scopeQ_normal ?_ | refine scopeQ_ret ?_ | refine scopeQ_exit ?_ | refine ewp_skip ?_ | refine ewp_block ?_ | refine ewp_exit ?_ | refine ewp_label ?_ | refine thenQ_normal ?_ | refine thenQ_ret ?_ | refine thenQ_exit ?_ | refine blockQ_normal ?_ | refine blockQ_ret ?_ | refine blockQ_here ?_ | refine blockQ_there (by decide) ?_ | refine ewp_ret ?_ | refine opsW_nil ?_ | refine quietW_nil ?_ | (refine run_cond (by simp [hk1, hk2, hk]; exact Gives.mk) (fun hb => ?_) (fun hb => ?_) <;> (try simp at hb)) | fail) | (first | refine run_callW hc (by simp [hk1, hk2, hk]; exact Gives.mk) (by simp [hk1, hk2, hk]; exact Gives.mk) (by simp [hk1, hk2, hk]; exact Gives.mk) (by simp [hk1, hk2, hk]; exact Gives.mk) (by simp [hk1, hk2, hk]; exact Gives.mk) (fun _ => by first | exact trivial) (by simp) (by simp) ?_ | refine run_callQ hc (by simp [hk1, hk2, hk]; exact Gives.mk) (by simp [hk1, hk2, hk]; exact Gives.mk) (by simp [hk1, hk2, hk]; exact Gives.mk) (by simp [hk1, hk2, hk]; exact Gives.mk) (by simp [hk1, hk2, hk]; exact Gives.mk) (fun _ => by first | exact trivial) (by simp) (by simp) ?_ | refine run_ops hc (by simp [hk1, hk2, hk]; first | exact Ends.go | exact Ends.halt) (by decide) (by first | exact True.intro | omega | (simp; done) | (simp; omega) | (simp at *; omega)) ?_ | refine run_quiet hc (by simp [hk1, hk2, hk]; first | exact Ends.go | exact Ends.halt) (by decide) (by first | exact True.intro | omega | (simp; done) | (simp; omega) | (simp at *; omega)) ?_ | refine run_regionW hc (by simp [hk1, hk2, hk]; exact Ends.halt) (by first | exact True.intro | omega | (simp; done) | (simp; omega) | (simp at *; omega)) ?_ | refine run_drawN hc (by kernel_rfl) (by decide) (by kernel_rfl) (by simp [hk1, hk2, hk]; exact Ends.halt) (by first | exact True.intro | omega | (simp; done) | (simp; omega) | (simp at *; omega)) ?_ | fail) | (first | refine run_skip hc (by simp [hk1, hk2, hk]; exact Gives.mk) (by simp) ?_ | fail))
    all_goals first
      | (exfalso; omega)
      | (obtain ⟨pre', hp1, hp2, hp3⟩ := hno hi
         exact ⟨(j + 1, last, s), ⟨by simp; omega, by simp; omega, pre', hp1, hp2, hp3⟩, by simp; omega, run_back [0, 4, 6, 7, 8] [] (by simp; exact Gives.mk) (by simp; exact Gives.mk) (by simp)⟩)
  by_cases hj0 : 0 < j
  rotate_left
  · obtain rfl : j = 0 := by omega
    have hi : incl m 0 = true := by simp [incl, hk, bhd]
    repeat' (first | (first | refine ewp_seq ?_ | refine run_region hc (by simp [hk]; exact Ends.go) (by first | exact True.intro | omega | (simp; done) | (simp; omega) | (simp at *; omega)) ?_ | refine run_draw hc (by kernel_rfl) (by kernel_rfl) (by simp [hk]; exact Ends.go) (by first | exact True.intro | omega | (simp; done) | (simp; omega) | (simp at *; omega)) ?_ | refine ewp_scope ?_ | refine scopeQ_normal ?_ | refine scopeQ_ret ?_ | refine scopeQ_exit ?_ | refine ewp_skip ?_ | refine ewp_block ?_ | refine ewp_exit ?_ | refine ewp_label ?_ | refine thenQ_normal ?_ | refine thenQ_ret ?_ | refine thenQ_exit ?_ | refine blockQ_normal ?_ | refine blockQ_ret ?_ | refine blockQ_here ?_ | refine blockQ_there (by decide) ?_ | refine ewp_ret ?_ | refine opsW_nil ?_ | refine quietW_nil ?_ | (refine run_cond (by simp [hk]; exact Gives.mk) (fun hb => ?_) (fun hb => ?_) <;> (try simp at hb)) | fail) | (first | refine run_callW hc (by simp [hk]; exact Gives.mk) (by simp [hk]; exact Gives.mk) (by simp [hk]; exact Gives.mk) (by simp [hk]; exact Gives.mk) (by simp [hk]; exact Gives.mk) (fun _ => by first | exact hmt) (by simp) (by simp) ?_ | refine run_callQ hc (by simp [hk]; exact Gives.mk) (by simp [hk]; exact Gives.mk) (by simp [hk]; exact Gives.mk) (by simp [hk]; exact Gives.mk) (by simp [hk]; exact Gives.mk) (fun _ => by first | exact hmt) (by simp) (by simp) ?_ | refine run_ops hc (by simp [hk]; first | exact Ends.go | exact Ends.halt) (by decide) (by first | exact True.intro | omega | (simp; done) | (simp; omega) | (simp at *; omega)) ?_ | refine run_quiet hc (by simp [hk]; first | exact Ends.go | exact Ends.halt) (by decide) (by first | exact True.intro | omega | (simp; done) | (simp; omega) | (simp at *; omega)) ?_ | refine run_regionW hc (by simp [hk]; exact Ends.halt) (by first | exact True.intro | omega | (simp; done) | (simp; omega) | (simp at *; omega)) ?_ | refine run_drawN hc (by kernel_rfl) (by decide) (by kernel_rfl) (by simp [hk]; exact Ends.halt) (by first | exact True.intro | omega | (simp; done) | (simp; omega) | (simp at *; omega)) ?_ | fail) | (first | refine run_skip hc (by simp [hk]; exact Gives.mk) (by simp) ?_ | fail))
    all_goals first
      | (exfalso; omega)
      | (exfalso; subst hb; simp at hjm; done)
      | (obtain ⟨pre', hp1, hp2, hp3⟩ := hyes hi
         rw [if_pos (by omega)] at hp1
         exact ⟨(0 + 1, 0, s ++ [32] ++ tx l m 0), ⟨by simp; omega, by simp, pre', hp1, hp2, hp3⟩, by simp; omega, run_back [0, 4, 6, 7, 8] [] (by simp; exact Gives.mk) (by simp; exact Gives.mk) (by simp [tx])⟩)
      | (obtain ⟨pre', hp1, hp2, hp3⟩ := hyes hi
         rw [if_neg (by omega), List.append_nil] at hp1
         exact ⟨(0 + 1, 0, s ++ tx l m 0), ⟨by simp; omega, by simp, pre', hp1, hp2, hp3⟩, by simp; omega, run_back [0, 4, 6, 7, 8] [] (by simp; exact Gives.mk) (by simp; exact Gives.mk) (by simp [tx])⟩)
  by_cases hp : (m[j - 1]?.getD .none).kind = 2
  rotate_left
  · have hp1 : (((m[j - 1]?.getD .none).kind : Int) == 2) = false := by simp; omega
    have hi : incl m j = true := by simp [incl, hk, bhd, hp]
    repeat' (first | (first | refine ewp_seq ?_ | refine run_region hc (by simp [hk, hj0, hp, hp1]; exact Ends.go) (by first | exact True.intro | omega | (simp; done) | (simp; omega) | (simp at *; omega)) ?_ | refine run_draw hc (by kernel_rfl) (by kernel_rfl) (by simp [hk, hj0, hp, hp1]; exact Ends.go) (by first | exact True.intro | omega | (simp; done) | (simp; omega) | (simp at *; omega)) ?_ | refine ewp_scope ?_ | refine scopeQ_normal ?_ | refine scopeQ_ret ?_ | refine scopeQ_exit ?_ | refine ewp_skip ?_ | refine ewp_block ?_ | refine ewp_exit ?_ | refine ewp_label ?_ | refine thenQ_normal ?_ | refine thenQ_ret ?_ | refine thenQ_exit ?_ | refine blockQ_normal ?_ | refine blockQ_ret ?_ | refine blockQ_here ?_ | refine blockQ_there (by decide) ?_ | refine ewp_ret ?_ | refine opsW_nil ?_ | refine quietW_nil ?_ | (refine run_cond (by simp [hk, hj0, hp, hp1]; exact Gives.mk) (fun hb => ?_) (fun hb => ?_) <;> (try simp at hb)) | fail) | (first | refine run_callW hc (by simp [hk, hj0, hp, hp1]; exact Gives.mk) (by simp [hk, hj0, hp, hp1]; exact Gives.mk) (by simp [hk, hj0, hp, hp1]; exact Gives.mk) (by simp [hk, hj0, hp, hp1]; exact Gives.mk) (by simp [hk, hj0, hp, hp1]; exact Gives.mk) (fun _ => by first | exact hmt) (by simp) (by simp) ?_ | refine run_callQ hc (by simp [hk, hj0, hp, hp1]; exact Gives.mk) (by simp [hk, hj0, hp, hp1]; exact Gives.mk) (by simp [hk, hj0, hp, hp1]; exact Gives.mk) (by simp [hk, hj0, hp, hp1]; exact Gives.mk) (by simp [hk, hj0, hp, hp1]; exact Gives.mk) (fun _ => by first | exact hmt) (by simp) (by simp) ?_ | refine run_ops hc (by simp [hk, hj0, hp, hp1]; first | exact Ends.go | exact Ends.halt) (by decide) (by first | exact True.intro | omega | (simp; done) | (simp; omega) | (simp at *; omega)) ?_ | refine run_quiet hc (by simp [hk, hj0, hp, hp1]; first | exact Ends.go | exact Ends.halt) (by decide) (by first | exact True.intro | omega | (simp; done) | (simp; omega) | (simp at *; omega)) ?_ | refine run_regionW hc (by simp [hk, hj0, hp, hp1]; exact Ends.halt) (by first | exact True.intro | omega | (simp; done) | (simp; omega) | (simp at *; omega)) ?_ | refine run_drawN hc (by kernel_rfl) (by decide) (by kernel_rfl) (by simp [hk, hj0, hp, hp1]; exact Ends.halt) (by first | exact True.intro | omega | (simp; done) | (simp; omega) | (simp at *; omega)) ?_ | fail) | (first | refine run_skip hc (by simp [hk, hj0, hp, hp1]; exact Gives.mk) (by simp) ?_ | fail))
    all_goals first
      | (exfalso; omega)
      | (obtain ⟨pre', hp1, hp2, hp3⟩ := hyes hi
         rw [if_pos (by omega)] at hp1
         exact ⟨(j + 1, j, s ++ [32] ++ tx l m j), ⟨by simp; omega, by simp, pre', hp1, hp2, hp3⟩, by simp; omega, run_back [0, 4, 6, 7, 8] [] (by simp; exact Gives.mk) (by simp; exact Gives.mk) (by simp [tx])⟩)
      | (obtain ⟨pre', hp1, hp2, hp3⟩ := hyes hi
         rw [if_neg (by omega), List.append_nil] at hp1
         exact ⟨(j + 1, j, s ++ tx l m j), ⟨by simp; omega, by simp, pre', hp1, hp2, hp3⟩, by simp; omega, run_back [0, 4, 6, 7, 8] [] (by simp; exact Gives.mk) (by simp; exact Gives.mk) (by simp [tx])⟩)
  by_cases hr : (m[j - 1]?.getD .none).name ∈ raws
  · have hi : incl m j = false := by simp [incl, hk, bhd, hp, hj0, hr]
    rw [decide_eq_true hr] at hone
    repeat' (first | (first | refine ewp_seq ?_ | refine run_region hc (by simp [hk, hj0, hp]; exact Ends.go) (by first | exact True.intro | omega | (simp; done) | (simp; omega) | (simp at *; omega)) ?_ | refine run_draw hc (by kernel_rfl) (by kernel_rfl) (by simp [hk, hj0, hp]; exact Ends.go) (by first | exact True.intro | omega | (simp; done) | (simp; omega) | (simp at *; omega)) ?_ | refine ewp_scope ?_ | refine scopeQ_normal ?_ | refine scopeQ_ret ?_ | refine scopeQ_exit ?_ | refine ewp_skip ?_ | refine ewp_block ?_ | refine ewp_exit ?_ | refine ewp_label ?_ | refine thenQ_normal ?_ | refine thenQ_ret ?_ | refine thenQ_exit ?_ | refine blockQ_normal ?_ | refine blockQ_ret ?_ | refine blockQ_here ?_ | refine blockQ_there (by decide) ?_ | refine ewp_ret ?_ | refine opsW_nil ?_ | refine quietW_nil ?_ | (refine run_cond (by simp [hk, hj0, hp]; exact Gives.mk) (fun hb => ?_) (fun hb => ?_) <;> (try simp at hb)) | fail) | (first | refine run_callW hc (by simp [hk, hj0, hp]; exact Gives.mk) (by simp [hk, hj0, hp]; exact Gives.mk) (by simp [hk, hj0, hp]; exact Gives.mk) (by simp [hk, hj0, hp]; exact Gives.mk) (by simp [hk, hj0, hp]; exact Gives.mk) (fun _ => by first | exact hmt | exact hone) (by simp) (by simp) ?_ | refine run_callQ hc (by simp [hk, hj0, hp]; exact Gives.mk) (by simp [hk, hj0, hp]; exact Gives.mk) (by simp [hk, hj0, hp]; exact Gives.mk) (by simp [hk, hj0, hp]; exact Gives.mk) (by simp [hk, hj0, hp]; exact Gives.mk) (fun _ => by first | exact hmt | exact hone) (by simp) (by simp) ?_ | refine run_ops hc (by simp [hk, hj0, hp]; first | exact Ends.go | exact Ends.halt) (by decide) (by first | exact True.intro | omega | (simp; done) | (simp; omega) | (simp at *; omega)) ?_ | refine run_quiet hc (by simp [hk, hj0, hp]; first | exact Ends.go | exact Ends.halt) (by decide) (by first | exact True.intro | omega | (simp; done) | (simp; omega) | (simp at *; omega)) ?_ | refine run_regionW hc (by simp [hk, hj0, hp]; exact Ends.halt) (by first | exact True.intro | omega | (simp; done) | (simp; omega) | (simp at *; omega)) ?_ | refine run_drawN hc (by kernel_rfl) (by decide) (by kernel_rfl) (by simp [hk, hj0, hp]; exact Ends.halt) (by first | exact True.intro | omega | (simp; done) | (simp; omega) | (simp at *; omega)) ?_ | fail) | (first | refine run_skip hc (by simp [hk, hj0, hp]; exact Gives.mk) (by simp) ?_ | fail))
    all_goals first
      | (exfalso; omega)
      | (obtain ⟨pre', hp1, hp2, hp3⟩ := hno hi
         exact ⟨(j + 1, last, s), ⟨by simp; omega, by simp; omega, pre', hp1, hp2, hp3⟩, by simp; omega, run_back [0, 4, 6, 7, 8] [] (by simp; exact Gives.mk) (by simp; exact Gives.mk) (by simp)⟩)
  · have hi : incl m j = true := by simp [incl, hk, bhd, hp, hj0, hr]
    rw [decide_eq_false hr] at hone
    repeat' (first | (first | refine ewp_seq ?_ | refine run_region hc (by simp [hk, hj0, hp]; exact Ends.go) (by first | exact True.intro | omega | (simp; done) | (simp; omega) | (simp at *; omega)) ?_ | refine run_draw hc (by kernel_rfl) (by kernel_rfl) (by simp [hk, hj0, hp]; exact Ends.go) (by first | exact True.intro | omega | (simp; done) | (simp; omega) | (simp at *; omega)) ?_ | refine ewp_scope ?_ | refine scopeQ_normal ?_ | refine scopeQ_ret ?_ | refine scopeQ_exit ?_ | refine ewp_skip ?_ | refine ewp_block ?_ | refine ewp_exit ?_ | refine ewp_label ?_ | refine thenQ_normal ?_ | refine thenQ_ret ?_ | refine thenQ_exit ?_ | refine blockQ_normal ?_ | refine blockQ_ret ?_ | refine blockQ_here ?_ | refine blockQ_there (by decide) ?_ | refine ewp_ret ?_ | refine opsW_nil ?_ | refine quietW_nil ?_ | (refine run_cond (by simp [hk, hj0, hp]; exact Gives.mk) (fun hb => ?_) (fun hb => ?_) <;> (try simp at hb)) | fail) | (first | refine run_callW hc (by simp [hk, hj0, hp]; exact Gives.mk) (by simp [hk, hj0, hp]; exact Gives.mk) (by simp [hk, hj0, hp]; exact Gives.mk) (by simp [hk, hj0, hp]; exact Gives.mk) (by simp [hk, hj0, hp]; exact Gives.mk) (fun _ => by first | exact hmt | exact hone) (by simp) (by simp) ?_ | refine run_callQ hc (by simp [hk, hj0, hp]; exact Gives.mk) (by simp [hk, hj0, hp]; exact Gives.mk) (by simp [hk, hj0, hp]; exact Gives.mk) (by simp [hk, hj0, hp]; exact Gives.mk) (by simp [hk, hj0, hp]; exact Gives.mk) (fun _ => by first | exact hmt | exact hone) (by simp) (by simp) ?_ | refine run_ops hc (by simp [hk, hj0, hp]; first | exact Ends.go | exact Ends.halt) (by decide) (by first | exact True.intro | omega | (simp; done) | (simp; omega) | (simp at *; omega)) ?_ | refine run_quiet hc (by simp [hk, hj0, hp]; first | exact Ends.go | exact Ends.halt) (by decide) (by first | exact True.intro | omega | (simp; done) | (simp; omega) | (simp at *; omega)) ?_ | refine run_regionW hc (by simp [hk, hj0, hp]; exact Ends.halt) (by first | exact True.intro | omega | (simp; done) | (simp; omega) | (simp at *; omega)) ?_ | refine run_drawN hc (by kernel_rfl) (by decide) (by kernel_rfl) (by simp [hk, hj0, hp]; exact Ends.halt) (by first | exact True.intro | omega | (simp; done) | (simp; omega) | (simp at *; omega)) ?_ | fail) | (first | refine run_skip hc (by simp [hk, hj0, hp]; exact Gives.mk) (by simp) ?_ | fail))
    all_goals first
      | (exfalso; omega)
      | (obtain ⟨pre', hp1, hp2, hp3⟩ := hyes hi
         rw [if_pos (by omega)] at hp1
         exact ⟨(j + 1, j, s ++ [32] ++ tx l m j), ⟨by simp; omega, by simp, pre', hp1, hp2, hp3⟩, by simp; omega, run_back [0, 4, 6, 7, 8] [] (by simp; exact Gives.mk) (by simp; exact Gives.mk) (by simp [tx])⟩)
      | (obtain ⟨pre', hp1, hp2, hp3⟩ := hyes hi
         rw [if_neg (by omega), List.append_nil] at hp1
         exact ⟨(j + 1, j, s ++ tx l m j), ⟨by simp; omega, by simp, pre', hp1, hp2, hp3⟩, by simp; omega, run_back [0, 4, 6, 7, 8] [] (by simp; exact Gives.mk) (by simp; exact Gives.mk) (by simp [tx])⟩)
theorem saysLaw_ok (l : Bs) (hm : l.length ≤ maxLen) : FnOk Try.prog 6 [byS l] (tru true) := by
  have h1 := title_ok l hm
  have h2 := rTitle_ok l hm
  have h3 := said_ok l hm
  have h4 := rSaid_ok l hm
  refine fnOk Try.func6 rfl (by kernel_rfl) Try.ntmps6 _ rfl (by simp) fun C hc => ?_
  by_cases h : l.length ≤ 200000 ∧ (run l 0 0 []).length ≤ 20000
  · rw [if_pos h] at h1 h2 h3 h4
    generalize tid (Lib.join (sdT l (run l 0 0 []) (run l 0 0 []).length) [32]) = x at h3 h4
    generalize titR l (run l 0 0 []) 0 = t at h1 h2
    obtain _ | t := t
    · simp only [titD] at h1 h2
      repeat' (first | (first | refine ewp_seq ?_ | refine run_region hc (by simp; exact Ends.go) (by first | exact True.intro | omega | (simp; done) | (simp; omega) | (simp at *; omega)) ?_ | refine run_draw hc (by kernel_rfl) (by kernel_rfl) (by simp; exact Ends.go) (by first | exact True.intro | omega | (simp; done) | (simp; omega) | (simp at *; omega)) ?_ | refine ewp_scope ?_ | refine scopeQ_normal ?_ | refine scopeQ_ret ?_ | refine scopeQ_exit ?_ | refine ewp_skip ?_ | refine ewp_block ?_ | refine ewp_exit ?_ | refine ewp_label ?_ | refine thenQ_normal ?_ | refine thenQ_ret ?_ | refine thenQ_exit ?_ | refine blockQ_normal ?_ | refine blockQ_ret ?_ | refine blockQ_here ?_ | refine blockQ_there (by decide) ?_ | refine ewp_ret ?_ | refine opsW_nil ?_ | refine quietW_nil ?_ | (refine run_cond (by simp; exact Gives.mk) (fun hb => ?_) (fun hb => ?_) <;> (try simp at hb)) | fail) | (first | refine run_callW hc (by simp; exact Gives.mk) (by simp; exact Gives.mk) (by simp; exact Gives.mk) (by simp; exact Gives.mk) (by simp; exact Gives.mk) (fun _ => by first | exact h1 | exact h2 | exact h3 | exact h4 | exact awake_ok) (by simp) (by simp) ?_ | refine run_callQ hc (by simp; exact Gives.mk) (by simp; exact Gives.mk) (by simp; exact Gives.mk) (by simp; exact Gives.mk) (by simp; exact Gives.mk) (fun _ => by first | exact h1 | exact h2 | exact h3 | exact h4 | exact awake_ok) (by simp) (by simp) ?_ | refine run_ops hc (by simp; first | exact Ends.go | exact Ends.halt) (by decide) (by first | exact True.intro | omega | (simp; done) | (simp; omega) | (simp at *; omega)) ?_ | refine run_quiet hc (by simp; first | exact Ends.go | exact Ends.halt) (by decide) (by first | exact True.intro | omega | (simp; done) | (simp; omega) | (simp at *; omega)) ?_ | refine run_regionW hc (by simp; exact Ends.halt) (by first | exact True.intro | omega | (simp; done) | (simp; omega) | (simp at *; omega)) ?_ | refine run_drawN hc (by kernel_rfl) (by decide) (by kernel_rfl) (by simp; exact Ends.halt) (by first | exact True.intro | omega | (simp; done) | (simp; omega) | (simp at *; omega)) ?_ | fail))
      (refine run_leave hc (by simp; exact Gives.mk) ?_)
      simp
    · simp only [titD] at h1 h2
      repeat' (first | (first | refine ewp_seq ?_ | refine run_region hc (by simp; exact Ends.go) (by first | exact True.intro | omega | (simp; done) | (simp; omega) | (simp at *; omega)) ?_ | refine run_draw hc (by kernel_rfl) (by kernel_rfl) (by simp; exact Ends.go) (by first | exact True.intro | omega | (simp; done) | (simp; omega) | (simp at *; omega)) ?_ | refine ewp_scope ?_ | refine scopeQ_normal ?_ | refine scopeQ_ret ?_ | refine scopeQ_exit ?_ | refine ewp_skip ?_ | refine ewp_block ?_ | refine ewp_exit ?_ | refine ewp_label ?_ | refine thenQ_normal ?_ | refine thenQ_ret ?_ | refine thenQ_exit ?_ | refine blockQ_normal ?_ | refine blockQ_ret ?_ | refine blockQ_here ?_ | refine blockQ_there (by decide) ?_ | refine ewp_ret ?_ | refine opsW_nil ?_ | refine quietW_nil ?_ | (refine run_cond (by simp; exact Gives.mk) (fun hb => ?_) (fun hb => ?_) <;> (try simp at hb)) | fail) | (first | refine run_callW hc (by simp; exact Gives.mk) (by simp; exact Gives.mk) (by simp; exact Gives.mk) (by simp; exact Gives.mk) (by simp; exact Gives.mk) (fun _ => by first | exact h1 | exact h2 | exact h3 | exact h4 | exact awake_ok) (by simp) (by simp) ?_ | refine run_callQ hc (by simp; exact Gives.mk) (by simp; exact Gives.mk) (by simp; exact Gives.mk) (by simp; exact Gives.mk) (by simp; exact Gives.mk) (fun _ => by first | exact h1 | exact h2 | exact h3 | exact h4 | exact awake_ok) (by simp) (by simp) ?_ | refine run_ops hc (by simp; first | exact Ends.go | exact Ends.halt) (by decide) (by first | exact True.intro | omega | (simp; done) | (simp; omega) | (simp at *; omega)) ?_ | refine run_quiet hc (by simp; first | exact Ends.go | exact Ends.halt) (by decide) (by first | exact True.intro | omega | (simp; done) | (simp; omega) | (simp at *; omega)) ?_ | refine run_regionW hc (by simp; exact Ends.halt) (by first | exact True.intro | omega | (simp; done) | (simp; omega) | (simp at *; omega)) ?_ | refine run_drawN hc (by kernel_rfl) (by decide) (by kernel_rfl) (by simp; exact Ends.halt) (by first | exact True.intro | omega | (simp; done) | (simp; omega) | (simp at *; omega)) ?_ | fail))
      (refine run_leave hc (by simp; exact Gives.mk) ?_)
      simp
  · rw [if_neg h] at h1 h2 h3 h4
    repeat' (first | (first | refine ewp_seq ?_ | refine run_region hc (by simp; exact Ends.go) (by first | exact True.intro | omega | (simp; done) | (simp; omega) | (simp at *; omega)) ?_ | refine run_draw hc (by kernel_rfl) (by kernel_rfl) (by simp; exact Ends.go) (by first | exact True.intro | omega | (simp; done) | (simp; omega) | (simp at *; omega)) ?_ | refine ewp_scope ?_ | refine scopeQ_normal ?_ | refine scopeQ_ret ?_ | refine scopeQ_exit ?_ | refine ewp_skip ?_ | refine ewp_block ?_ | refine ewp_exit ?_ | refine ewp_label ?_ | refine thenQ_normal ?_ | refine thenQ_ret ?_ | refine thenQ_exit ?_ | refine blockQ_normal ?_ | refine blockQ_ret ?_ | refine blockQ_here ?_ | refine blockQ_there (by decide) ?_ | refine ewp_ret ?_ | refine opsW_nil ?_ | refine quietW_nil ?_ | (refine run_cond (by simp; exact Gives.mk) (fun hb => ?_) (fun hb => ?_) <;> (try simp at hb)) | fail) | (first | refine run_callW hc (by simp; exact Gives.mk) (by simp; exact Gives.mk) (by simp; exact Gives.mk) (by simp; exact Gives.mk) (by simp; exact Gives.mk) (fun _ => by first | exact h1 | exact h2 | exact h3 | exact h4 | exact awake_ok) (by simp) (by simp) ?_ | refine run_callQ hc (by simp; exact Gives.mk) (by simp; exact Gives.mk) (by simp; exact Gives.mk) (by simp; exact Gives.mk) (by simp; exact Gives.mk) (fun _ => by first | exact h1 | exact h2 | exact h3 | exact h4 | exact awake_ok) (by simp) (by simp) ?_ | refine run_ops hc (by simp; first | exact Ends.go | exact Ends.halt) (by decide) (by first | exact True.intro | omega | (simp; done) | (simp; omega) | (simp at *; omega)) ?_ | refine run_quiet hc (by simp; first | exact Ends.go | exact Ends.halt) (by decide) (by first | exact True.intro | omega | (simp; done) | (simp; omega) | (simp at *; omega)) ?_ | refine run_regionW hc (by simp; exact Ends.halt) (by first | exact True.intro | omega | (simp; done) | (simp; omega) | (simp at *; omega)) ?_ | refine run_drawN hc (by kernel_rfl) (by decide) (by kernel_rfl) (by simp; exact Ends.halt) (by first | exact True.intro | omega | (simp; done) | (simp; omega) | (simp at *; omega)) ?_ | fail))
    (refine run_leave hc (by simp; exact Gives.mk) ?_)
    simp
theorem liftedPageSaysMatchSpec (os : Os) (started : os.Started) (H : Type) (enc : TypeId × Value → H) :
    ReturnsInHanded {} Try.checked os 6 .any (Rows.pageSaysMatchSpecSpec.pre6 enc Try.prog Try.f6 Rows.pageSaysMatchSpecRow.domain false) (Rows.pageSaysMatchSpecSpec.post enc Try.prog Try.f6 false true false false) := by
  refine returnsInHanded_of_change_shaped (C := Try.checked) own started (by kernel_rfl) Try.func6
    (ChangeSpec.witness6 (enc := enc) (C := Try.checked) false ⟨#[], #[.slice none 0 0], []⟩ 8 (by kernel_rfl) (by kernel_rfl) (by kernel_rfl) (by kernel_rfl)) ?_
  intro W base args ds gs before hval0 hW hcnd _ hsh _
  have hval : ∀ (j : Nat) t v, Try.f6.params[j]? = some t → args[j]? = some v → Value.okWide Try.prog W .any base t v := hval0
  have hW' := hW
  obtain ⟨p, q, hA0, _, _, _, _⟩ := hW
  have hA : DataW.TrodAll enc Try.prog W 0 (fun _ => true) true Try.f6.params.toList args.toList ds p := hA0
  rw [Try.params6] at hA hval
  obtain ⟨v0, _, d0, _, p0, _, hargs, rfl, _, h0, r0⟩ := trodAll_cons hA
  obtain ⟨rfl, rfl, _⟩ := trodAll_nil r0
  obtain rfl : args = #[v0] := by cases args; simp_all
  obtain ⟨a0, c0, e0⟩ := opnA_by H enc W base v0 d0 p0 (hval 0 _ v0 rfl rfl) h0
  exact law_contract laidOut (of_decide_eq_true (by kernel_rfl)) rfl Try.underlying4 rfl (fun ds hd => by
    match ds, hd with
    | [_], _ => rfl) hW' (std_of_shaped (by kernel_rfl) hsh) (ArgsL.rd (.cons e0 .nil)) (saysLaw_ok a0 c0.1)
theorem overPageSaysMatchSpec : Rows.pageSaysMatchSpecRow.holds Try.pinned (OpenSpec.ofChange Rows.pageSaysMatchSpecSpec) :=
  OpenClaim.holds_of_wide 6 Try.f6 rfl rfl rfl rfl rfl rfl rfl ⟨rfl, rfl, rfl, rfl, rfl⟩ rfl rfl rfl rfl rfl (by kernel_rfl) Try.func6 (by kernel_rfl)
    (of_decide_eq_true (by kernel_rfl)) (by unfold Func.isWrapper; first | (rw [if_pos (by decide +kernel)]; kernel_rfl) | (rw [if_neg (by decide +kernel)]; exact ⟨rfl, rfl⟩))
    (fun os started H enc _ => liftedPageSaysMatchSpec os started H enc)

/-- The given statement. -/
theorem pageSaysMatchSpec_proved : Rows.PageSaysMatchSpecSaid := overPageSaysMatchSpec
#print axioms pageSaysMatchSpec_proved
end Go.Proofs.Ytgebkjngnfdeiaa
