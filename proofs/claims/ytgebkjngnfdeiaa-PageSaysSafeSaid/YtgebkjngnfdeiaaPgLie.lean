/-
  PAGE: Tokens; and PageTokensLieSide: tokens lie side by side. (WITH run_drawN.)
-/
import Derived.Test.YtgebkjngnfdeiaaPgTok
import Derived.Test.YtgebkjngnfdeiaaPgSafeLaw
set_option linter.unusedSimpArgs false
set_option linter.unusedVariables false
namespace Go.Proofs.Ytgebkjngnfdeiaa
open Go.Lw Go.RowKit Go.ChangeShapes Go.WideShapes Go.ChangeAt
set_option maxRecDepth 100000
set_option maxHeartbeats 1000000

abbrev encU (t : Tk) : List D := [int t.kind, int t.fr, int t.to, str t.name, attSl t.atts]
abbrev tokSu (m : List Tk) : D := .sl m.length fun i => encU (m[i]?.getD .none)
abbrev byS (l : Bs) : D := .sl l.length fun i => byteRow (l[i]?.getD 0)
/-- Tokens that are no beginnings of tags have no attributes. -/
def Plain (m : List Tk) : Prop := ∀ t ∈ m, t.kind ≠ 2 → t.atts = []
theorem weak_tok {m : List Tk} (hm : Plain m) : Weak (tokSl m) (tokSu m) := by
  refine weak_sl (fun i _ => rfl) fun i k d hi hd => ?_
  have hp := hm (m[i]?.getD .none) (by rw [List.getElem?_eq_getElem hi]; simp)
  generalize m[i]?.getD .none = t at hd hp ⊢
  match k, hd with
  | 0, hd | 1, hd | 2, hd | 3, hd => cases hd; exact ⟨_, rfl, Weak.refl _⟩
  | 4, hd =>
    cases hd
    refine ⟨_, rfl, ?_⟩
    unfold attD
    split
    · exact Weak.refl _
    · rename_i hk
      rw [hp hk]
      exact weak_nil _
@[simp] theorem range_bytes (l : Bs) : (List.range l.length).map (fun i => l[i]?.getD 0) = l := by
  apply List.ext_getElem?
  intro i
  by_cases h : i < l.length
  · simp [h]
  · simp [h]
theorem checked_ok (l : Bs) (hm : l.length ≤ maxLen) : FnOk Try.prog 23 [byS l] (if l.length ≤ 200000 ∧ (run l 0 0 []).length ≤ 20000 then .tup [tokSl (run l 0 0 []), int 0] else .tup [nilSl, int 2]) := by
  refine fnOk Try.func23 rfl (by kernel_rfl) Try.ntmps23 _ rfl (by simp) fun C hc => ?_
  unfold maxLen at hm
  by_cases h1 : l.length ≤ 200000
  · have ht := tokens_ok l h1
    repeat' (first | (first | refine ewp_seq ?_ | refine run_region hc (by simp; exact Ends.go) (by first | exact True.intro | omega | (simp; done) | (simp; omega) | (simp at *; omega)) ?_ | refine run_draw hc (by kernel_rfl) (by kernel_rfl) (by simp; exact Ends.go) (by first | exact True.intro | omega | (simp; done) | (simp; omega) | (simp at *; omega)) ?_ | refine ewp_scope ?_ | refine scopeQ_normal ?_ | refine scopeQ_ret ?_ | refine scopeQ_exit ?_ | refine ewp_skip ?_ | refine ewp_block ?_ | refine ewp_exit ?_ | refine ewp_label ?_ | refine thenQ_normal ?_ | refine thenQ_ret ?_ | refine thenQ_exit ?_ | refine blockQ_normal ?_ | refine blockQ_ret ?_ | refine blockQ_here ?_ | refine blockQ_there (by decide) ?_ | refine ewp_ret ?_ | refine opsW_nil ?_ | refine quietW_nil ?_ | (refine run_cond (by simp; exact Gives.mk) (fun hb => ?_) (fun hb => ?_) <;> (try simp at hb)) | fail) | (first | refine run_callW hc (by simp; exact Gives.mk) (by simp; exact Gives.mk) (by simp; exact Gives.mk) (by simp; exact Gives.mk) (by simp; exact Gives.mk) (fun _ => by first | exact ht) (by simp) (by simp) ?_ | refine run_callQ hc (by simp; exact Gives.mk) (by simp; exact Gives.mk) (by simp; exact Gives.mk) (by simp; exact Gives.mk) (by simp; exact Gives.mk) (fun _ => by first | exact ht) (by simp) (by simp) ?_ | refine run_ops hc (by simp; first | exact Ends.go | exact Ends.halt) (by decide) (by first | exact True.intro | omega | (simp; done) | (simp; omega) | (simp at *; omega)) ?_ | refine run_quiet hc (by simp; first | exact Ends.go | exact Ends.halt) (by decide) (by first | exact True.intro | omega | (simp; done) | (simp; omega) | (simp at *; omega)) ?_ | refine run_regionW hc (by simp; exact Ends.halt) (by first | exact True.intro | omega | (simp; done) | (simp; omega) | (simp at *; omega)) ?_ | refine run_drawN hc (by kernel_rfl) (by decide) (by kernel_rfl) (by simp; exact Ends.halt) (by first | exact True.intro | omega | (simp; done) | (simp; omega) | (simp at *; omega)) ?_ | fail))
    · exfalso; omega
    · rw [if_neg (by omega)]
      (refine run_leave hc (by simp; exact Gives.mk) ?_)
      simp
    · rw [if_pos (by omega)]
      (refine run_leave hc (by simp; exact Gives.mk) ?_)
      simp
  · rw [if_neg (fun h => h1 h.1)]
    repeat' (first | (first | refine ewp_seq ?_ | refine run_region hc (by simp; exact Ends.go) (by first | exact True.intro | omega | (simp; done) | (simp; omega) | (simp at *; omega)) ?_ | refine run_draw hc (by kernel_rfl) (by kernel_rfl) (by simp; exact Ends.go) (by first | exact True.intro | omega | (simp; done) | (simp; omega) | (simp at *; omega)) ?_ | refine ewp_scope ?_ | refine scopeQ_normal ?_ | refine scopeQ_ret ?_ | refine scopeQ_exit ?_ | refine ewp_skip ?_ | refine ewp_block ?_ | refine ewp_exit ?_ | refine ewp_label ?_ | refine thenQ_normal ?_ | refine thenQ_ret ?_ | refine thenQ_exit ?_ | refine blockQ_normal ?_ | refine blockQ_ret ?_ | refine blockQ_here ?_ | refine blockQ_there (by decide) ?_ | refine ewp_ret ?_ | refine opsW_nil ?_ | refine quietW_nil ?_ | (refine run_cond (by simp; exact Gives.mk) (fun hb => ?_) (fun hb => ?_) <;> (try simp at hb)) | fail))
    · (refine run_leave hc (by simp; exact Gives.mk) ?_)
      simp
    · exfalso; omega

/-! Side by side. -/
def Fit (t : Tk) : Prop := ∀ x ∈ t.atts, t.fr ≤ x.fr ∧ x.fr ≤ x.to ∧ x.to ≤ t.to ∧ (x.has = false → x.fr = x.to)
def Side : List Tk → Nat → Nat → Prop
  | [], a, b => a = b
  | t :: r, a, b => t.fr = a ∧ a < t.to ∧ Fit t ∧ ((t.kind ≠ 2 → t.atts = []) ∧ t.atts.length ≤ 200000) ∧ Side r t.to b
theorem Side.append {m r : List Tk} {a b c : Nat} (h : Side m a b) (h2 : Side r b c) : Side (m ++ r) a c := by
  induction m generalizing a with
  | nil => cases h; exact h2
  | cons t m ih => exact ⟨h.1, h.2.1, h.2.2.1, h.2.2.2.1, ih h.2.2.2.2⟩
theorem txt_side {a b : Nat} (h : a ≤ b) : Side (txt a b) a b := by
  unfold txt
  split
  · exact ⟨rfl, by assumption, (fun x hx => by cases hx), ⟨fun _ => rfl, by simp⟩, rfl⟩
  · show a = b; omega
theorem tok_plain {l : Bs} {i : Nat} {t : Tk} (h : tok l i = some t) : t.kind ≠ 2 → t.atts = [] := by
  unfold tok at h
  split at h
  · cases h; exact fun _ => rfl
  · split at h
    · cases h; exact fun _ => rfl
    · split at h
      · cases h; exact fun hk => absurd rfl hk
      · cases h
theorem tok_atts {l : Bs} {i : Nat} {t : Tk} (hi : i ≤ l.length) (h : tok l i = some t) : t.atts.length ≤ l.length := by
  unfold tok at h
  have h3 := opn_le (l := l) hi
  split at h
  · cases h; simp
  · split at h
    · cases h; simp
    · split at h
      · rename_i r q hr
        cases h
        rw [hr] at h3
        exact (h3.2 _ rfl).2.2.2
      · cases h
theorem run_side (l : Bs) (hll : l.length ≤ 200000) : ∀ (n fr i : Nat) (m : List Tk), l.length - i ≤ n → fr ≤ i → i ≤ l.length → Side m 0 fr → (run l fr i m).length ≤ 20000 → Side (run l fr i m) 0 l.length := by
  intro n
  induction n with
  | zero =>
    intro fr i m h1 h2 h3 h4 h5
    rw [run_end (by omega)]
    exact h4.append (txt_side (by omega))
  | succ n ih =>
    intro fr i m h1 h2 h3 h4 h5
    by_cases hc : i < l.length ∧ m.length ≤ 20000
    · cases ht : tok l i with
      | none =>
        rw [run_none hc.1 hc.2 ht] at h5 ⊢
        exact ih fr (i + 1) m (by omega) (by omega) (by omega) h4 h5
      | some t =>
        rw [run_some hc.1 hc.2 ht] at h5 ⊢
        have hle := tok_le h3 ht
        have hre := rawE_le l t.to t.name hle.2.1
        have hs : ∀ r c, Side r t.to c → Side (m ++ txt fr i ++ t :: r) 0 c := fun r c hr =>
          (h4.append (txt_side h2)).append ⟨hle.2.2.1, by omega, fun x hx => by have := hle.2.2.2.2.2 x hx; rw [hle.2.2.1]; exact this, ⟨tok_plain ht, Nat.le_trans (tok_atts h3 ht) hll⟩, hr⟩
        split
        · rename_i hb
          rw [if_pos hb] at h5
          exact ih _ _ _ (by omega) (Nat.le_refl _) hre.2 (hs _ _ (txt_side hre.1)) h5
        · rename_i hb
          rw [if_neg hb] at h5
          exact ih _ _ _ (by omega) (Nat.le_refl _) hle.2.1 (hs [] t.to rfl) h5
    · rw [run_end hc] at h5 ⊢
      simp at h5
      exact h4.append (txt_side (by omega))
theorem Side.plain {m : List Tk} {a b : Nat} (h : Side m a b) : Plain m := by
  induction m generalizing a with
  | nil => intro t ht; cases ht
  | cons t m ih =>
    intro x hx
    cases hx with
    | head => exact h.2.2.2.1.1
    | tail _ hx => exact ih h.2.2.2.2 x hx

theorem tokensF_ok (l : Bs) (hm : l.length ≤ maxLen) : FnOk Try.prog 12 [byS l] (if l.length ≤ 200000 ∧ (run l 0 0 []).length ≤ 20000 then .tup [tokSu (run l 0 0 []), int 0] else .tup [nilSl, int 2]) := by
  have hC := checked_ok l hm
  by_cases h : l.length ≤ 200000 ∧ (run l 0 0 []).length ≤ 20000
  · have hS := run_side l h.1 l.length 0 0 [] (by omega) (Nat.le_refl _) (by omega) rfl h.2
    rw [if_pos h] at hC ⊢
    refine FnOk.weak (res := .tup [tokSl (run l 0 0 []), int 0]) ?_ (weak_tup rfl fun k d hd => ?_)
    · refine fnOk Try.func12 rfl (by kernel_rfl) Try.ntmps12 _ rfl (by simp) fun C hc => ?_
      repeat' (first | (first | refine ewp_seq ?_ | refine run_region hc (by simp; exact Ends.go) (by first | exact True.intro | omega | (simp; done) | (simp; omega) | (simp at *; omega)) ?_ | refine run_draw hc (by kernel_rfl) (by kernel_rfl) (by simp; exact Ends.go) (by first | exact True.intro | omega | (simp; done) | (simp; omega) | (simp at *; omega)) ?_ | refine ewp_scope ?_ | refine scopeQ_normal ?_ | refine scopeQ_ret ?_ | refine scopeQ_exit ?_ | refine ewp_skip ?_ | refine ewp_block ?_ | refine ewp_exit ?_ | refine ewp_label ?_ | refine thenQ_normal ?_ | refine thenQ_ret ?_ | refine thenQ_exit ?_ | refine blockQ_normal ?_ | refine blockQ_ret ?_ | refine blockQ_here ?_ | refine blockQ_there (by decide) ?_ | refine ewp_ret ?_ | refine opsW_nil ?_ | refine quietW_nil ?_ | (refine run_cond (by simp; exact Gives.mk) (fun hb => ?_) (fun hb => ?_) <;> (try simp at hb)) | fail) | (first | refine run_callW hc (by simp; exact Gives.mk) (by simp; exact Gives.mk) (by simp; exact Gives.mk) (by simp; exact Gives.mk) (by simp; exact Gives.mk) (fun _ => by first | exact hC) (by simp) (by simp) ?_ | refine run_callQ hc (by simp; exact Gives.mk) (by simp; exact Gives.mk) (by simp; exact Gives.mk) (by simp; exact Gives.mk) (by simp; exact Gives.mk) (fun _ => by first | exact hC) (by simp) (by simp) ?_ | refine run_ops hc (by simp; first | exact Ends.go | exact Ends.halt) (by decide) (by first | exact True.intro | omega | (simp; done) | (simp; omega) | (simp at *; omega)) ?_ | refine run_quiet hc (by simp; first | exact Ends.go | exact Ends.halt) (by decide) (by first | exact True.intro | omega | (simp; done) | (simp; omega) | (simp at *; omega)) ?_ | refine run_regionW hc (by simp; exact Ends.halt) (by first | exact True.intro | omega | (simp; done) | (simp; omega) | (simp at *; omega)) ?_ | refine run_drawN hc (by kernel_rfl) (by decide) (by kernel_rfl) (by simp; exact Ends.halt) (by first | exact True.intro | omega | (simp; done) | (simp; omega) | (simp at *; omega)) ?_ | fail))
      (refine run_leave hc (by simp; exact Gives.mk) ?_)
      simp
    · match k, hd with
      | 0, hd => cases hd; exact ⟨_, rfl, weak_tok hS.plain⟩
      | 1, hd => cases hd; exact ⟨_, rfl, Weak.refl _⟩
  · rw [if_neg h] at hC ⊢
    refine fnOk Try.func12 rfl (by kernel_rfl) Try.ntmps12 _ rfl (by simp) fun C hc => ?_
    repeat' (first | (first | refine ewp_seq ?_ | refine run_region hc (by simp; exact Ends.go) (by first | exact True.intro | omega | (simp; done) | (simp; omega) | (simp at *; omega)) ?_ | refine run_draw hc (by kernel_rfl) (by kernel_rfl) (by simp; exact Ends.go) (by first | exact True.intro | omega | (simp; done) | (simp; omega) | (simp at *; omega)) ?_ | refine ewp_scope ?_ | refine scopeQ_normal ?_ | refine scopeQ_ret ?_ | refine scopeQ_exit ?_ | refine ewp_skip ?_ | refine ewp_block ?_ | refine ewp_exit ?_ | refine ewp_label ?_ | refine thenQ_normal ?_ | refine thenQ_ret ?_ | refine thenQ_exit ?_ | refine blockQ_normal ?_ | refine blockQ_ret ?_ | refine blockQ_here ?_ | refine blockQ_there (by decide) ?_ | refine ewp_ret ?_ | refine opsW_nil ?_ | refine quietW_nil ?_ | (refine run_cond (by simp; exact Gives.mk) (fun hb => ?_) (fun hb => ?_) <;> (try simp at hb)) | fail) | (first | refine run_callW hc (by simp; exact Gives.mk) (by simp; exact Gives.mk) (by simp; exact Gives.mk) (by simp; exact Gives.mk) (by simp; exact Gives.mk) (fun _ => by first | exact hC) (by simp) (by simp) ?_ | refine run_callQ hc (by simp; exact Gives.mk) (by simp; exact Gives.mk) (by simp; exact Gives.mk) (by simp; exact Gives.mk) (by simp; exact Gives.mk) (fun _ => by first | exact hC) (by simp) (by simp) ?_ | refine run_ops hc (by simp; first | exact Ends.go | exact Ends.halt) (by decide) (by first | exact True.intro | omega | (simp; done) | (simp; omega) | (simp at *; omega)) ?_ | refine run_quiet hc (by simp; first | exact Ends.go | exact Ends.halt) (by decide) (by first | exact True.intro | omega | (simp; done) | (simp; omega) | (simp at *; omega)) ?_ | refine run_regionW hc (by simp; exact Ends.halt) (by first | exact True.intro | omega | (simp; done) | (simp; omega) | (simp at *; omega)) ?_ | refine run_drawN hc (by kernel_rfl) (by decide) (by kernel_rfl) (by simp; exact Ends.halt) (by first | exact True.intro | omega | (simp; done) | (simp; omega) | (simp at *; omega)) ?_ | fail))
    (refine run_leave hc (by simp; exact Gives.mk) ?_)
    simp
theorem lie_ok (l : Bs) (hm : l.length ≤ maxLen) : FnOk Try.prog 4 [byS l] (tru true) := by
  have hT := tokensF_ok l hm
  refine fnOk Try.func4 rfl (by kernel_rfl) Try.ntmps4 _ rfl (by simp) fun C hc => ?_
  unfold maxLen at hm
  by_cases h : l.length ≤ 200000 ∧ (run l 0 0 []).length ≤ 20000
  · have hS := run_side l h.1 l.length 0 0 [] (by omega) (Nat.le_refl _) (by omega) rfl h.2
    rw [if_pos h] at hT
    have hml := h.2
    generalize run l 0 0 [] = m at hT hS hml
    repeat' (first | (first | refine ewp_seq ?_ | refine run_region hc (by simp; exact Ends.go) (by first | exact True.intro | omega | (simp; done) | (simp; omega) | (simp at *; omega)) ?_ | refine run_draw hc (by kernel_rfl) (by kernel_rfl) (by simp; exact Ends.go) (by first | exact True.intro | omega | (simp; done) | (simp; omega) | (simp at *; omega)) ?_ | refine ewp_scope ?_ | refine scopeQ_normal ?_ | refine scopeQ_ret ?_ | refine scopeQ_exit ?_ | refine ewp_skip ?_ | refine ewp_block ?_ | refine ewp_exit ?_ | refine ewp_label ?_ | refine thenQ_normal ?_ | refine thenQ_ret ?_ | refine thenQ_exit ?_ | refine blockQ_normal ?_ | refine blockQ_ret ?_ | refine blockQ_here ?_ | refine blockQ_there (by decide) ?_ | refine ewp_ret ?_ | refine opsW_nil ?_ | refine quietW_nil ?_ | (refine run_cond (by simp; exact Gives.mk) (fun hb => ?_) (fun hb => ?_) <;> (try simp at hb)) | fail) | (first | refine run_callW hc (by simp; exact Gives.mk) (by simp; exact Gives.mk) (by simp; exact Gives.mk) (by simp; exact Gives.mk) (by simp; exact Gives.mk) (fun _ => by first | exact hT | exact awake_ok) (by simp) (by simp) ?_ | refine run_callQ hc (by simp; exact Gives.mk) (by simp; exact Gives.mk) (by simp; exact Gives.mk) (by simp; exact Gives.mk) (by simp; exact Gives.mk) (fun _ => by first | exact hT | exact awake_ok) (by simp) (by simp) ?_ | refine run_ops hc (by simp; first | exact Ends.go | exact Ends.halt) (by decide) (by first | exact True.intro | omega | (simp; done) | (simp; omega) | (simp at *; omega)) ?_ | refine run_quiet hc (by simp; first | exact Ends.go | exact Ends.halt) (by decide) (by first | exact True.intro | omega | (simp; done) | (simp; omega) | (simp at *; omega)) ?_ | refine run_regionW hc (by simp; exact Ends.halt) (by first | exact True.intro | omega | (simp; done) | (simp; omega) | (simp at *; omega)) ?_ | refine run_drawN hc (by kernel_rfl) (by decide) (by kernel_rfl) (by simp; exact Ends.halt) (by first | exact True.intro | omega | (simp; done) | (simp; omega) | (simp at *; omega)) ?_ | fail))
    all_goals try contradiction
    refine ewp_loop (fun x : Nat × Nat => ⟨[(0, .d (byS l)), (3, .d (tokSu m)), (5, .d (int x.2)), (6, .d (int x.1))], []⟩) (fun x => x.1 ≤ m.length ∧ x.2 ≤ l.length ∧ Side (m.drop x.1) x.2 l.length) (fun x => m.length - x.1) (0, 0) (by simpa using hS) (run_keep [0, 3, 5, 6] [] (by simp; exact Gives.mk) (by simp; exact Gives.mk)) ?_
    rintro ⟨i, a⟩ ⟨h1, h2, h3⟩
    simp only at h1 h2 h3 ⊢
    have hd : i < m.length → Side (m[i]?.getD .none :: m.drop (i + 1)) a l.length := fun hi => by
      rw [List.drop_eq_getElem_cons hi] at h3
      rw [List.getElem?_eq_getElem hi]
      exact h3
    have hn : ¬ i < m.length → a = l.length := fun hi => by
      rw [List.drop_of_length_le (by omega)] at h3
      exact h3
    have hto : ∀ (m : List Tk) (a b : Nat), Side m a b → a ≤ b := by
      intro m
      induction m with
      | nil => intro a b h; have : a = b := h; omega
      | cons t m ih => intro a b h; have := ih _ _ h.2.2.2.2; have := h.2.1; omega
    have hle := fun hi => hto _ _ _ (hd hi).2.2.2.2
    have hat : ∀ j, j < (m[i]?.getD Tk.none).atts.length → i < m.length → (m[i]?.getD Tk.none).fr ≤ ((m[i]?.getD Tk.none).atts[j]?.getD Atr.none).fr ∧ ((m[i]?.getD Tk.none).atts[j]?.getD Atr.none).fr ≤ ((m[i]?.getD Tk.none).atts[j]?.getD Atr.none).to ∧ ((m[i]?.getD Tk.none).atts[j]?.getD Atr.none).to ≤ (m[i]?.getD Tk.none).to ∧ (((m[i]?.getD Tk.none).atts[j]?.getD Atr.none).has = false → ((m[i]?.getD Tk.none).atts[j]?.getD Atr.none).fr = ((m[i]?.getD Tk.none).atts[j]?.getD Atr.none).to) := fun j hj hi => by
      rw [List.getElem?_eq_getElem hj]
      exact (hd hi).2.2.1 _ (List.getElem_mem hj)
    have hal : ∀ hi : i < m.length, (m[i]?.getD Tk.none).fr = a ∧ a < (m[i]?.getD Tk.none).to := fun hi => ⟨(hd hi).1, (hd hi).2.1⟩
    repeat' (first | (first | refine ewp_seq ?_ | refine run_region hc (by simp; exact Ends.go) (by first | exact True.intro | omega | (simp; done) | (simp; omega) | (simp at *; omega)) ?_ | refine run_draw hc (by kernel_rfl) (by kernel_rfl) (by simp; exact Ends.go) (by first | exact True.intro | omega | (simp; done) | (simp; omega) | (simp at *; omega)) ?_ | refine ewp_scope ?_ | refine scopeQ_normal ?_ | refine scopeQ_ret ?_ | refine scopeQ_exit ?_ | refine ewp_skip ?_ | refine ewp_block ?_ | refine ewp_exit ?_ | refine ewp_label ?_ | refine thenQ_normal ?_ | refine thenQ_ret ?_ | refine thenQ_exit ?_ | refine blockQ_normal ?_ | refine blockQ_ret ?_ | refine blockQ_here ?_ | refine blockQ_there (by decide) ?_ | refine ewp_ret ?_ | refine opsW_nil ?_ | refine quietW_nil ?_ | (refine run_cond (by simp; exact Gives.mk) (fun hb => ?_) (fun hb => ?_) <;> (try simp at hb)) | fail))
    · exfalso
      have := hal (by assumption)
      omega
    · have hi : i < m.length := by assumption
      have ha := hal hi
      have hl := hle hi
      have hs := (hd hi).2.2.2.2
      have hk := (hd hi).2.2.2.1.2
      obtain ⟨t, hmt⟩ : ∃ t, m[i]?.getD Tk.none = t := ⟨_, rfl⟩
      simp only [hmt] at hat ha hl hs hk hb ⊢
      refine ewp_loop (fun j : Nat => ⟨[(0, .d (byS l)), (3, .d (tokSu m)), (5, .d (int t.to)), (6, .d (int i)), (56, .d (attSl t.atts)), (57, .d (int t.atts.length)), (58, .d (int j))], []⟩) (fun j => j ≤ t.atts.length) (fun j => t.atts.length - j) 0 (by simp) (run_keep [0, 3, 5, 6, 56, 57, 58] [] (by simp; exact Gives.mk) (by simp; exact Gives.mk)) ?_
      intro j hj
      have haj := fun h => hat j h hi
      repeat' (first | (first | refine ewp_seq ?_ | refine run_region hc (by simp; exact Ends.go) (by first | exact True.intro | omega | (simp; done) | (simp; omega) | (simp at *; omega)) ?_ | refine run_draw hc (by kernel_rfl) (by kernel_rfl) (by simp; exact Ends.go) (by first | exact True.intro | omega | (simp; done) | (simp; omega) | (simp at *; omega)) ?_ | refine ewp_scope ?_ | refine scopeQ_normal ?_ | refine scopeQ_ret ?_ | refine scopeQ_exit ?_ | refine ewp_skip ?_ | refine ewp_block ?_ | refine ewp_exit ?_ | refine ewp_label ?_ | refine thenQ_normal ?_ | refine thenQ_ret ?_ | refine thenQ_exit ?_ | refine blockQ_normal ?_ | refine blockQ_ret ?_ | refine blockQ_here ?_ | refine blockQ_there (by decide) ?_ | refine ewp_ret ?_ | refine opsW_nil ?_ | refine quietW_nil ?_ | (refine run_cond (by simp; exact Gives.mk) (fun hb => ?_) (fun hb => ?_) <;> (try simp at hb)) | fail) | (first | refine run_callW hc (by simp; exact Gives.mk) (by simp; exact Gives.mk) (by simp; exact Gives.mk) (by simp; exact Gives.mk) (by simp; exact Gives.mk) (fun _ => by first | exact trivial) (by simp) (by simp) ?_ | refine run_callQ hc (by simp; exact Gives.mk) (by simp; exact Gives.mk) (by simp; exact Gives.mk) (by simp; exact Gives.mk) (by simp; exact Gives.mk) (fun _ => by first | exact trivial) (by simp) (by simp) ?_ | refine run_ops hc (by simp; first | exact Ends.go | exact Ends.halt) (by decide) (by first | exact True.intro | omega | (simp; done) | (simp; omega) | (simp at *; omega)) ?_ | refine run_quiet hc (by simp; first | exact Ends.go | exact Ends.halt) (by decide) (by first | exact True.intro | omega | (simp; done) | (simp; omega) | (simp at *; omega)) ?_ | refine run_regionW hc (by simp; exact Ends.halt) (by first | exact True.intro | omega | (simp; done) | (simp; omega) | (simp at *; omega)) ?_ | refine run_drawN hc (by kernel_rfl) (by decide) (by kernel_rfl) (by simp; exact Ends.halt) (by first | exact True.intro | omega | (simp; done) | (simp; omega) | (simp at *; omega)) ?_ | fail))
      · exfalso
        rw [hmt] at hb
        have hq := haj (by assumption)
        rcases hb with h' | ⟨h', h4⟩
        · omega
        · exact h4 (by rw [hq.2.2.2 h'])
      · exact ⟨j + 1, by omega, by omega, run_back [0, 3, 5, 6, 56, 57, 58] [] (by simp; exact Gives.mk) (by simp; exact Gives.mk) (by simp)⟩
      · exact ⟨(i + 1, t.to), ⟨by simp; omega, by simp; omega, hs⟩, by simp; omega, run_back [0, 3, 5, 6] [] (by simp; exact Gives.mk) (by simp; exact Gives.mk) (by simp [hmt])⟩
    · have := hn (by omega)
      subst this
      repeat' (first | (first | refine ewp_seq ?_ | refine run_region hc (by simp; exact Ends.go) (by first | exact True.intro | omega | (simp; done) | (simp; omega) | (simp at *; omega)) ?_ | refine run_draw hc (by kernel_rfl) (by kernel_rfl) (by simp; exact Ends.go) (by first | exact True.intro | omega | (simp; done) | (simp; omega) | (simp at *; omega)) ?_ | refine ewp_scope ?_ | refine scopeQ_normal ?_ | refine scopeQ_ret ?_ | refine scopeQ_exit ?_ | refine ewp_skip ?_ | refine ewp_block ?_ | refine ewp_exit ?_ | refine ewp_label ?_ | refine thenQ_normal ?_ | refine thenQ_ret ?_ | refine thenQ_exit ?_ | refine blockQ_normal ?_ | refine blockQ_ret ?_ | refine blockQ_here ?_ | refine blockQ_there (by decide) ?_ | refine ewp_ret ?_ | refine opsW_nil ?_ | refine quietW_nil ?_ | (refine run_cond (by simp; exact Gives.mk) (fun hb => ?_) (fun hb => ?_) <;> (try simp at hb)) | fail) | (first | refine run_callW hc (by simp; exact Gives.mk) (by simp; exact Gives.mk) (by simp; exact Gives.mk) (by simp; exact Gives.mk) (by simp; exact Gives.mk) (fun _ => by first | exact awake_ok) (by simp) (by simp) ?_ | refine run_callQ hc (by simp; exact Gives.mk) (by simp; exact Gives.mk) (by simp; exact Gives.mk) (by simp; exact Gives.mk) (by simp; exact Gives.mk) (fun _ => by first | exact awake_ok) (by simp) (by simp) ?_ | refine run_ops hc (by simp; first | exact Ends.go | exact Ends.halt) (by decide) (by first | exact True.intro | omega | (simp; done) | (simp; omega) | (simp at *; omega)) ?_ | refine run_quiet hc (by simp; first | exact Ends.go | exact Ends.halt) (by decide) (by first | exact True.intro | omega | (simp; done) | (simp; omega) | (simp at *; omega)) ?_ | refine run_regionW hc (by simp; exact Ends.halt) (by first | exact True.intro | omega | (simp; done) | (simp; omega) | (simp at *; omega)) ?_ | refine run_drawN hc (by kernel_rfl) (by decide) (by kernel_rfl) (by simp; exact Ends.halt) (by first | exact True.intro | omega | (simp; done) | (simp; omega) | (simp at *; omega)) ?_ | fail))
      (refine run_leave hc (by simp; exact Gives.mk) ?_)
      simp
  · rw [if_neg h] at hT
    repeat' (first | (first | refine ewp_seq ?_ | refine run_region hc (by simp; exact Ends.go) (by first | exact True.intro | omega | (simp; done) | (simp; omega) | (simp at *; omega)) ?_ | refine run_draw hc (by kernel_rfl) (by kernel_rfl) (by simp; exact Ends.go) (by first | exact True.intro | omega | (simp; done) | (simp; omega) | (simp at *; omega)) ?_ | refine ewp_scope ?_ | refine scopeQ_normal ?_ | refine scopeQ_ret ?_ | refine scopeQ_exit ?_ | refine ewp_skip ?_ | refine ewp_block ?_ | refine ewp_exit ?_ | refine ewp_label ?_ | refine thenQ_normal ?_ | refine thenQ_ret ?_ | refine thenQ_exit ?_ | refine blockQ_normal ?_ | refine blockQ_ret ?_ | refine blockQ_here ?_ | refine blockQ_there (by decide) ?_ | refine ewp_ret ?_ | refine opsW_nil ?_ | refine quietW_nil ?_ | (refine run_cond (by simp; exact Gives.mk) (fun hb => ?_) (fun hb => ?_) <;> (try simp at hb)) | fail) | (first | refine run_callW hc (by simp; exact Gives.mk) (by simp; exact Gives.mk) (by simp; exact Gives.mk) (by simp; exact Gives.mk) (by simp; exact Gives.mk) (fun _ => by first | exact hT | exact awake_ok) (by simp) (by simp) ?_ | refine run_callQ hc (by simp; exact Gives.mk) (by simp; exact Gives.mk) (by simp; exact Gives.mk) (by simp; exact Gives.mk) (by simp; exact Gives.mk) (fun _ => by first | exact hT | exact awake_ok) (by simp) (by simp) ?_ | refine run_ops hc (by simp; first | exact Ends.go | exact Ends.halt) (by decide) (by first | exact True.intro | omega | (simp; done) | (simp; omega) | (simp at *; omega)) ?_ | refine run_quiet hc (by simp; first | exact Ends.go | exact Ends.halt) (by decide) (by first | exact True.intro | omega | (simp; done) | (simp; omega) | (simp at *; omega)) ?_ | refine run_regionW hc (by simp; exact Ends.halt) (by first | exact True.intro | omega | (simp; done) | (simp; omega) | (simp at *; omega)) ?_ | refine run_drawN hc (by kernel_rfl) (by decide) (by kernel_rfl) (by simp; exact Ends.halt) (by first | exact True.intro | omega | (simp; done) | (simp; omega) | (simp at *; omega)) ?_ | fail))
    all_goals try contradiction
    (refine run_leave hc (by simp; exact Gives.mk) ?_)
    simp
theorem opn_byte : Opn Try.prog 5 (fun b : UInt8 => byteRow b) (fun _ => True) :=
  (opn_int Try.underlying5).map (fun n => UInt8.ofNat n.toNat) (fun n h => by
    have h' : 0 ≤ n ∧ n ≤ 255 := h
    have e : ((UInt8.ofNat n.toNat).toNat : Int) = n := by
      rw [UInt8.toNat_ofNat']
      omega
    show [D.lit (.int .u8 (((UInt8.ofNat n.toNat).toNat : Nat) : Int))] = _
    rw [e]) (fun _ _ => trivial)
theorem opnA_by : OpnA Try.prog 28 byS (fun l => l.length ≤ maxLen ∧ ∀ x ∈ l, True) :=
  opnA_cell (opn_slice (0 : UInt8) Try.underlying28 (n := 1) (by kernel_rfl) (by omega) opn_byte) (fun _ => by simp [byS]) (by kernel_rfl)
theorem liftedPageTokensLieSide (os : Os) (started : os.Started) (H : Type) (enc : TypeId × Value → H) :
    ReturnsInHanded {} Try.checked os 4 .any (Rows.pageTokensLieSideSpec.pre6 enc Try.prog Try.f4 Rows.pageTokensLieSideRow.domain false) (Rows.pageTokensLieSideSpec.post enc Try.prog Try.f4 false true false false) := by
  refine returnsInHanded_of_change_shaped (C := Try.checked) own started (by kernel_rfl) Try.func4
    (ChangeSpec.witness6 (enc := enc) (C := Try.checked) false ⟨#[], #[.slice none 0 0], []⟩ 8 (by kernel_rfl) (by kernel_rfl) (by kernel_rfl) (by kernel_rfl)) ?_
  intro W base args ds gs before hval0 hW hcnd _ hsh _
  have hval : ∀ (j : Nat) t v, Try.f4.params[j]? = some t → args[j]? = some v → Value.okWide Try.prog W .any base t v := hval0
  have hW' := hW
  obtain ⟨p, q, hA0, _, _, _, _⟩ := hW
  have hA : DataW.TrodAll enc Try.prog W 0 (fun _ => true) true Try.f4.params.toList args.toList ds p := hA0
  rw [Try.params4] at hA hval
  obtain ⟨v0, _, d0, _, p0, _, hargs, rfl, _, h0, r0⟩ := trodAll_cons hA
  obtain ⟨rfl, rfl, _⟩ := trodAll_nil r0
  obtain rfl : args = #[v0] := by cases args; simp_all
  obtain ⟨a0, c0, e0⟩ := opnA_by H enc W base v0 d0 p0 (hval 0 _ v0 rfl rfl) h0
  exact law_contract laidOut (of_decide_eq_true (by kernel_rfl)) rfl Try.underlying4 rfl (fun ds hd => by
    match ds, hd with
    | [_], _ => rfl) hW' (std_of_shaped (by kernel_rfl) hsh) (ArgsL.rd (.cons e0 .nil)) (lie_ok a0 c0.1)
theorem overPageTokensLieSide : Rows.pageTokensLieSideRow.holds Try.pinned (OpenSpec.ofChange Rows.pageTokensLieSideSpec) :=
  OpenClaim.holds_of_wide 4 Try.f4 rfl rfl rfl rfl rfl rfl rfl ⟨rfl, rfl, rfl, rfl, rfl⟩ rfl rfl rfl rfl rfl (by kernel_rfl) Try.func4 (by kernel_rfl)
    (of_decide_eq_true (by kernel_rfl)) (by unfold Func.isWrapper; first | (rw [if_pos (by decide +kernel)]; kernel_rfl) | (rw [if_neg (by decide +kernel)]; exact ⟨rfl, rfl⟩))
    (fun os started H enc _ => liftedPageTokensLieSide os started H enc)

/-- The given statement. -/
theorem pageTokensLieSide_proved : Rows.PageTokensLieSideSaid := overPageTokensLieSide
#print axioms pageTokensLieSide_proved
end Go.Proofs.Ytgebkjngnfdeiaa
