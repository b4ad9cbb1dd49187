/-
  PAGE: Title and Said, and those of the reference. (WITH run_drawN.)
-/
import Derived.Test.YtgebkjngnfdeiaaSayA
set_option linter.unusedSimpArgs false
set_option linter.unusedVariables false
namespace Go.Proofs.Ytgebkjngnfdeiaa
open Go.Lw Go.RowKit Go.ChangeShapes Go.WideShapes Go.ChangeAt
set_option maxRecDepth 100000
set_option maxHeartbeats 1000000

section
variable {C : Ctx} {P : Program} {nt : Nat} {st : St}
/-- A call that is not wanted. -/
theorem run_skip (hc : CtxIs C P nt) {o : Oper} {ops : Array Oper} {rest : List Oper} {K : St → Prop} (hw : Gives (gE ops o st) false) (hd : dstB nt o.dst = true) (hk : opsW C ops rest (st.put o.dst .any) K) : opsW C ops (o :: rest) st K := by
  obtain ⟨rfl, rfl, hok⟩ := hc
  exact opsW_skip hw hd hk
end
theorem checkedU_ok (l : Bs) (hm : l.length ≤ maxLen) : FnOk Try.prog 23 [byS l] (if l.length ≤ 200000 ∧ (run l 0 0 []).length ≤ 20000 then .tup [tokSu (run l 0 0 []), int 0] else .tup [nilSl, int 2]) := by
  have hC := checked_ok l hm
  by_cases h : l.length ≤ 200000 ∧ (run l 0 0 []).length ≤ 20000
  · have hS := run_side l h.1 l.length 0 0 [] (by omega) (Nat.le_refl _) (by omega) rfl h.2
    rw [if_pos h] at hC ⊢
    refine FnOk.weak (res := .tup [tokSl (run l 0 0 []), int 0]) hC (weak_tup rfl fun k d hd => ?_)
    match k, hd with
    | 0, hd => cases hd; exact ⟨_, rfl, weak_tok hS.plain⟩
    | 1, hd => cases hd; exact ⟨_, rfl, Weak.refl _⟩
  · rw [if_neg h] at hC ⊢
    exact hC
theorem rCheckedU_ok (l : Bs) (hm : l.length ≤ maxLen) : FnOk Try.prog 24 [byS l] (if l.length ≤ 200000 ∧ (run l 0 0 []).length ≤ 20000 then .tup [tokSu (run l 0 0 []), int 0] else .tup [nilSl, int 2]) := by
  have hC := rChecked_ok l hm
  have hpr := parts_run l
  by_cases h : l.length ≤ 200000 ∧ (run l 0 0 []).length ≤ 20000
  · have hS := run_side l h.1 l.length 0 0 [] (by omega) (Nat.le_refl _) (by omega) rfl h.2
    rw [if_pos ⟨h.1, hpr.1.1 h.2⟩, ← hpr.2 (hpr.1.1 h.2)] at hC
    rw [if_pos h]
    refine FnOk.weak (res := .tup [tokSl (run l 0 0 []), int 0]) hC (weak_tup rfl fun k d hd => ?_)
    match k, hd with
    | 0, hd => cases hd; exact ⟨_, rfl, weak_tok hS.plain⟩
    | 1, hd => cases hd; exact ⟨_, rfl, Weak.refl _⟩
  · rw [if_neg (fun h' => h ⟨h'.1, hpr.1.2 h'.2⟩)] at hC
    rw [if_neg h]
    exact hC
theorem Side.get {m : List Tk} {a b : Nat} (h : Side m a b) : a ≤ b ∧ ∀ i, i < m.length → a ≤ (m[i]?.getD .none).fr ∧ (m[i]?.getD .none).fr < (m[i]?.getD .none).to ∧ (m[i]?.getD .none).to ≤ b := by
  induction m generalizing a with
  | nil => have : a = b := h; exact ⟨by omega, fun i hi => by simp at hi⟩
  | cons t m ih =>
    have h1 := ih h.2.2.2.2
    have h2 := h.2.1
    have h3 := h.1
    refine ⟨by omega, fun i hi => ?_⟩
    cases i with
    | zero => simp; omega
    | succ i =>
      have := h1.2 i (by simpa using hi)
      simp at this ⊢
      omega
def sub (l : Bs) (a b : Nat) : Bs := (List.range (b - a)).map fun i => l[a + i]?.getD 0
@[simp] theorem fold_sub (l : Bs) (a b : Nat) : List.map (fun i => l[a + i]?.getD 0) (List.range (b - a)) = sub l a b := rfl
theorem sub_len (l : Bs) (a b : Nat) : (sub l a b).length = b - a := by unfold sub; rw [List.length_map, List.length_range]
theorem sub_eq (l : Bs) (a b : Nat) (h : b ≤ l.length) : sub l a b = (l.take b).drop a := by
  apply List.ext_getElem?
  intro i
  unfold sub
  by_cases hi : i < b - a
  · rw [List.getElem?_map, List.getElem?_range hi, List.getElem?_drop, List.getElem?_take, if_pos (by omega), List.getElem?_eq_getElem (by omega)]
    simp [List.getElem?_eq_getElem (show a + i < l.length by omega)]
  · rw [List.getElem?_eq_none (by rw [List.length_map, List.length_range]; omega), List.getElem?_eq_none (by simp; omega)]
def ttl : Bs := [116, 105, 116, 108, 101]
/-- What a text token says. -/
def tx (l : Bs) (m : List Tk) (i : Nat) : Bs := meant (sub l (m[i]?.getD .none).fr (m[i]?.getD .none).to)
def titR (l : Bs) (m : List Tk) (i : Nat) : Option Bs := if i < m.length then (if bhd m i [ttl] = true then some (tid (tx l m i)) else titR l m (i + 1)) else none
termination_by m.length - i
abbrev titD : Option Bs → D
  | some s => .tup [str s, tru true, int 0]
  | none => .tup [str [], tru false, int 0]
theorem title_ok (l : Bs) (hm : l.length ≤ maxLen) : FnOk Try.prog 15 [byS l] (if l.length ≤ 200000 ∧ (run l 0 0 []).length ≤ 20000 then titD (titR l (run l 0 0 []) 0) else .tup [str [], tru false, int 2]) := by
  have hC := checkedU_ok l hm
  refine fnOk Try.func15 rfl (by kernel_rfl) Try.ntmps15 _ rfl (by simp) fun C hc => ?_
  unfold maxLen at hm
  by_cases h : l.length ≤ 200000 ∧ (run l 0 0 []).length ≤ 20000
  rotate_left
  · rw [if_neg h] at hC ⊢
    repeat' (first | (first | refine ewp_seq ?_ | refine run_region hc (by simp; exact Ends.go) (by first | exact True.intro | omega | (simp; done) | (simp; omega) | (simp at *; omega)) ?_ | refine run_draw hc (by kernel_rfl) (by kernel_rfl) (by simp; exact Ends.go) (by first | exact True.intro | omega | (simp; done) | (simp; omega) | (simp at *; omega)) ?_ | refine ewp_scope ?_ | refine scopeQ_normal ?_ | refine scopeQ_ret ?_ | refine scopeQ_exit ?_ | refine ewp_skip ?_ | refine ewp_block ?_ | refine ewp_exit ?_ | refine ewp_label ?_ | refine thenQ_normal ?_ | refine thenQ_ret ?_ | refine thenQ_exit ?_ | refine blockQ_normal ?_ | refine blockQ_ret ?_ | refine blockQ_here ?_ | refine blockQ_there (by decide) ?_ | refine ewp_ret ?_ | refine opsW_nil ?_ | refine quietW_nil ?_ | (refine run_cond (by simp; exact Gives.mk) (fun hb => ?_) (fun hb => ?_) <;> (try simp at hb)) | fail) | (first | refine run_callW hc (by simp; exact Gives.mk) (by simp; exact Gives.mk) (by simp; exact Gives.mk) (by simp; exact Gives.mk) (by simp; exact Gives.mk) (fun _ => by first | exact hC) (by simp) (by simp) ?_ | refine run_callQ hc (by simp; exact Gives.mk) (by simp; exact Gives.mk) (by simp; exact Gives.mk) (by simp; exact Gives.mk) (by simp; exact Gives.mk) (fun _ => by first | exact hC) (by simp) (by simp) ?_ | refine run_ops hc (by simp; first | exact Ends.go | exact Ends.halt) (by decide) (by first | exact True.intro | omega | (simp; done) | (simp; omega) | (simp at *; omega)) ?_ | refine run_quiet hc (by simp; first | exact Ends.go | exact Ends.halt) (by decide) (by first | exact True.intro | omega | (simp; done) | (simp; omega) | (simp at *; omega)) ?_ | refine run_regionW hc (by simp; exact Ends.halt) (by first | exact True.intro | omega | (simp; done) | (simp; omega) | (simp at *; omega)) ?_ | refine run_drawN hc (by kernel_rfl) (by decide) (by kernel_rfl) (by simp; exact Ends.halt) (by first | exact True.intro | omega | (simp; done) | (simp; omega) | (simp at *; omega)) ?_ | fail))
    all_goals try contradiction
    (refine run_leave hc (by simp; exact Gives.mk) ?_)
    simp
  have hS := (run_side l h.1 l.length 0 0 [] (by omega) (Nat.le_refl _) (by omega) rfl h.2).get.2
  rw [if_pos h] at hC ⊢
  have hml := h.2
  generalize run l 0 0 [] = m at hC hS hml ⊢
  repeat' (first | (first | refine ewp_seq ?_ | refine run_region hc (by simp; exact Ends.go) (by first | exact True.intro | omega | (simp; done) | (simp; omega) | (simp at *; omega)) ?_ | refine run_draw hc (by kernel_rfl) (by kernel_rfl) (by simp; exact Ends.go) (by first | exact True.intro | omega | (simp; done) | (simp; omega) | (simp at *; omega)) ?_ | refine ewp_scope ?_ | refine scopeQ_normal ?_ | refine scopeQ_ret ?_ | refine scopeQ_exit ?_ | refine ewp_skip ?_ | refine ewp_block ?_ | refine ewp_exit ?_ | refine ewp_label ?_ | refine thenQ_normal ?_ | refine thenQ_ret ?_ | refine thenQ_exit ?_ | refine blockQ_normal ?_ | refine blockQ_ret ?_ | refine blockQ_here ?_ | refine blockQ_there (by decide) ?_ | refine ewp_ret ?_ | refine opsW_nil ?_ | refine quietW_nil ?_ | (refine run_cond (by simp; exact Gives.mk) (fun hb => ?_) (fun hb => ?_) <;> (try simp at hb)) | fail) | (first | refine run_callW hc (by simp; exact Gives.mk) (by simp; exact Gives.mk) (by simp; exact Gives.mk) (by simp; exact Gives.mk) (by simp; exact Gives.mk) (fun _ => by first | exact hC) (by simp) (by simp) ?_ | refine run_callQ hc (by simp; exact Gives.mk) (by simp; exact Gives.mk) (by simp; exact Gives.mk) (by simp; exact Gives.mk) (by simp; exact Gives.mk) (fun _ => by first | exact hC) (by simp) (by simp) ?_ | refine run_ops hc (by simp; first | exact Ends.go | exact Ends.halt) (by decide) (by first | exact True.intro | omega | (simp; done) | (simp; omega) | (simp at *; omega)) ?_ | refine run_quiet hc (by simp; first | exact Ends.go | exact Ends.halt) (by decide) (by first | exact True.intro | omega | (simp; done) | (simp; omega) | (simp at *; omega)) ?_ | refine run_regionW hc (by simp; exact Ends.halt) (by first | exact True.intro | omega | (simp; done) | (simp; omega) | (simp at *; omega)) ?_ | refine run_drawN hc (by kernel_rfl) (by decide) (by kernel_rfl) (by simp; exact Ends.halt) (by first | exact True.intro | omega | (simp; done) | (simp; omega) | (simp at *; omega)) ?_ | fail))
  all_goals try contradiction
  refine ewp_loop (fun j : Nat => ⟨[(0, .d (byS l)), (5, .d (tokSu m)), (17, .d (tokSu m)), (18, .d (int m.length)), (19, .d (int j))], []⟩) (fun j => j ≤ m.length ∧ titR l m 0 = titR l m j) (fun j => m.length - j) 0 (by simp) (run_keep [0, 5, 17, 18, 19] [] (by simp; exact Gives.mk) (by simp; exact Gives.mk)) ?_
  rintro j ⟨h1, h2⟩
  have h3 : titR l m j = if j < m.length then (if bhd m j [ttl] = true then some (tid (tx l m j)) else titR l m (j + 1)) else none := by rw [titR]
  have hj := hS j
  have hbh := fun hj => behind_ok m j [ttl] hj hml (by simp)
  repeat' (first | (first | refine ewp_seq ?_ | refine run_region hc (by simp; exact Ends.go) (by first | exact True.intro | omega | (simp; done) | (simp; omega) | (simp at *; omega)) ?_ | refine run_draw hc (by kernel_rfl) (by kernel_rfl) (by simp; exact Ends.go) (by first | exact True.intro | omega | (simp; done) | (simp; omega) | (simp at *; omega)) ?_ | refine ewp_scope ?_ | refine scopeQ_normal ?_ | refine scopeQ_ret ?_ | refine scopeQ_exit ?_ | refine ewp_skip ?_ | refine ewp_block ?_ | refine ewp_exit ?_ | refine ewp_label ?_ | refine thenQ_normal ?_ | refine thenQ_ret ?_ | refine thenQ_exit ?_ | refine blockQ_normal ?_ | refine blockQ_ret ?_ | refine blockQ_here ?_ | refine blockQ_there (by decide) ?_ | refine ewp_ret ?_ | refine opsW_nil ?_ | refine quietW_nil ?_ | (refine run_cond (by simp; exact Gives.mk) (fun hb => ?_) (fun hb => ?_) <;> (try simp at hb)) | fail) | (first | refine run_callW hc (by simp; exact Gives.mk) (by simp; exact Gives.mk) (by simp; exact Gives.mk) (by simp; exact Gives.mk) (by simp; exact Gives.mk) (fun _ => by first | exact hbh (by assumption)) (by simp) (by simp) ?_ | refine run_callQ hc (by simp; exact Gives.mk) (by simp; exact Gives.mk) (by simp; exact Gives.mk) (by simp; exact Gives.mk) (by simp; exact Gives.mk) (fun _ => by first | exact hbh (by assumption)) (by simp) (by simp) ?_ | refine run_ops hc (by simp; first | exact Ends.go | exact Ends.halt) (by decide) (by first | exact True.intro | omega | (simp; done) | (simp; omega) | (simp at *; omega)) ?_ | refine run_quiet hc (by simp; first | exact Ends.go | exact Ends.halt) (by decide) (by first | exact True.intro | omega | (simp; done) | (simp; omega) | (simp at *; omega)) ?_ | refine run_regionW hc (by simp; exact Ends.halt) (by first | exact True.intro | omega | (simp; done) | (simp; omega) | (simp at *; omega)) ?_ | refine run_drawN hc (by kernel_rfl) (by decide) (by kernel_rfl) (by simp; exact Ends.halt) (by first | exact True.intro | omega | (simp; done) | (simp; omega) | (simp at *; omega)) ?_ | fail))
  · have hmt := meantP_ok (sub l (m[j]?.getD .none).fr (m[j]?.getD .none).to) (by rw [sub_len]; have := hj (by assumption); omega)
    have htd := tidy_ok (meant (sub l (m[j]?.getD .none).fr (m[j]?.getD .none).to)) (by have := meant_len (sub l (m[j]?.getD .none).fr (m[j]?.getD .none).to); rw [sub_len] at this; have := hj (by assumption); omega)
    repeat' (first | (first | refine ewp_seq ?_ | refine run_region hc (by simp; exact Ends.go) (by first | exact True.intro | omega | (simp; done) | (simp; omega) | (simp at *; omega)) ?_ | refine run_draw hc (by kernel_rfl) (by kernel_rfl) (by simp; exact Ends.go) (by first | exact True.intro | omega | (simp; done) | (simp; omega) | (simp at *; omega)) ?_ | refine ewp_scope ?_ | refine scopeQ_normal ?_ | refine scopeQ_ret ?_ | refine scopeQ_exit ?_ | refine ewp_skip ?_ | refine ewp_block ?_ | refine ewp_exit ?_ | refine ewp_label ?_ | refine thenQ_normal ?_ | refine thenQ_ret ?_ | refine thenQ_exit ?_ | refine blockQ_normal ?_ | refine blockQ_ret ?_ | refine blockQ_here ?_ | refine blockQ_there (by decide) ?_ | refine ewp_ret ?_ | refine opsW_nil ?_ | refine quietW_nil ?_ | (refine run_cond (by simp; exact Gives.mk) (fun hb => ?_) (fun hb => ?_) <;> (try simp at hb)) | fail) | (first | refine run_callW hc (by simp; exact Gives.mk) (by simp; exact Gives.mk) (by simp; exact Gives.mk) (by simp; exact Gives.mk) (by simp; exact Gives.mk) (fun _ => by first | exact hmt | exact htd) (by simp) (by simp) ?_ | refine run_callQ hc (by simp; exact Gives.mk) (by simp; exact Gives.mk) (by simp; exact Gives.mk) (by simp; exact Gives.mk) (by simp; exact Gives.mk) (fun _ => by first | exact hmt | exact htd) (by simp) (by simp) ?_ | refine run_ops hc (by simp; first | exact Ends.go | exact Ends.halt) (by decide) (by first | exact True.intro | omega | (simp; done) | (simp; omega) | (simp at *; omega)) ?_ | refine run_quiet hc (by simp; first | exact Ends.go | exact Ends.halt) (by decide) (by first | exact True.intro | omega | (simp; done) | (simp; omega) | (simp at *; omega)) ?_ | refine run_regionW hc (by simp; exact Ends.halt) (by first | exact True.intro | omega | (simp; done) | (simp; omega) | (simp at *; omega)) ?_ | refine run_drawN hc (by kernel_rfl) (by decide) (by kernel_rfl) (by simp; exact Ends.halt) (by first | exact True.intro | omega | (simp; done) | (simp; omega) | (simp at *; omega)) ?_ | fail))
    rw [h2, h3, if_pos (by assumption), if_pos hb]
    (refine run_leave hc (by simp; exact Gives.mk) ?_)
    simp [tx]
  · exact ⟨j + 1, ⟨by omega, by rw [h2, h3, if_pos (by assumption), if_neg (by rw [hb]; decide)]⟩, by omega, run_back [0, 5, 17, 18, 19] [] (by simp; exact Gives.mk) (by simp; exact Gives.mk) (by simp)⟩
  · rw [h2, h3, if_neg (by omega)]
    (refine run_leave hc (by simp; exact Gives.mk) ?_)
    simp
theorem rTitle_ok (l : Bs) (hm : l.length ≤ maxLen) : FnOk Try.prog 16 [byS l] (if l.length ≤ 200000 ∧ (run l 0 0 []).length ≤ 20000 then titD (titR l (run l 0 0 []) 0) else .tup [str [], tru false, int 2]) := by
  have hC := rCheckedU_ok l hm
  refine fnOk Try.func16 rfl (by kernel_rfl) Try.ntmps16 _ rfl (by simp) fun C hc => ?_
  unfold maxLen at hm
  by_cases h : l.length ≤ 200000 ∧ (run l 0 0 []).length ≤ 20000
  rotate_left
  · rw [if_neg h] at hC ⊢
    repeat' (first | (first | refine ewp_seq ?_ | refine run_region hc (by simp; exact Ends.go) (by first | exact True.intro | omega | (simp; done) | (simp; omega) | (simp at *; omega)) ?_ | refine run_draw hc (by kernel_rfl) (by kernel_rfl) (by simp; exact Ends.go) (by first | exact True.intro | omega | (simp; done) | (simp; omega) | (simp at *; omega)) ?_ | refine ewp_scope ?_ | refine scopeQ_normal ?_ | refine scopeQ_ret ?_ | refine scopeQ_exit ?_ | refine ewp_skip ?_ | refine ewp_block ?_ | refine ewp_exit ?_ | refine ewp_label ?_ | refine thenQ_normal ?_ | refine thenQ_ret ?_ | refine thenQ_exit ?_ | refine blockQ_normal ?_ | refine blockQ_ret ?_ | refine blockQ_here ?_ | refine blockQ_there (by decide) ?_ | refine ewp_ret ?_ | refine opsW_nil ?_ | refine quietW_nil ?_ | (refine run_cond (by simp; exact Gives.mk) (fun hb => ?_) (fun hb => ?_) <;> (try simp at hb)) | fail) | (first | refine run_callW hc (by simp; exact Gives.mk) (by simp; exact Gives.mk) (by simp; exact Gives.mk) (by simp; exact Gives.mk) (by simp; exact Gives.mk) (fun _ => by first | exact hC) (by simp) (by simp) ?_ | refine run_callQ hc (by simp; exact Gives.mk) (by simp; exact Gives.mk) (by simp; exact Gives.mk) (by simp; exact Gives.mk) (by simp; exact Gives.mk) (fun _ => by first | exact hC) (by simp) (by simp) ?_ | refine run_ops hc (by simp; first | exact Ends.go | exact Ends.halt) (by decide) (by first | exact True.intro | omega | (simp; done) | (simp; omega) | (simp at *; omega)) ?_ | refine run_quiet hc (by simp; first | exact Ends.go | exact Ends.halt) (by decide) (by first | exact True.intro | omega | (simp; done) | (simp; omega) | (simp at *; omega)) ?_ | refine run_regionW hc (by simp; exact Ends.halt) (by first | exact True.intro | omega | (simp; done) | (simp; omega) | (simp at *; omega)) ?_ | refine run_drawN hc (by kernel_rfl) (by decide) (by kernel_rfl) (by simp; exact Ends.halt) (by first | exact True.intro | omega | (simp; done) | (simp; omega) | (simp at *; omega)) ?_ | fail))
    all_goals try contradiction
    (refine run_leave hc (by simp; exact Gives.mk) ?_)
    simp
  have hS := (run_side l h.1 l.length 0 0 [] (by omega) (Nat.le_refl _) (by omega) rfl h.2).get.2
  rw [if_pos h] at hC ⊢
  have hml := h.2
  generalize run l 0 0 [] = m at hC hS hml ⊢
  repeat' (first | (first | refine ewp_seq ?_ | refine run_region hc (by simp; exact Ends.go) (by first | exact True.intro | omega | (simp; done) | (simp; omega) | (simp at *; omega)) ?_ | refine run_draw hc (by kernel_rfl) (by kernel_rfl) (by simp; exact Ends.go) (by first | exact True.intro | omega | (simp; done) | (simp; omega) | (simp at *; omega)) ?_ | refine ewp_scope ?_ | refine scopeQ_normal ?_ | refine scopeQ_ret ?_ | refine scopeQ_exit ?_ | refine ewp_skip ?_ | refine ewp_block ?_ | refine ewp_exit ?_ | refine ewp_label ?_ | refine thenQ_normal ?_ | refine thenQ_ret ?_ | refine thenQ_exit ?_ | refine blockQ_normal ?_ | refine blockQ_ret ?_ | refine blockQ_here ?_ | refine blockQ_there (by decide) ?_ | refine ewp_ret ?_ | refine opsW_nil ?_ | refine quietW_nil ?_ | (refine run_cond (by simp; exact Gives.mk) (fun hb => ?_) (fun hb => ?_) <;> (try simp at hb)) | fail) | (first | refine run_callW hc (by simp; exact Gives.mk) (by simp; exact Gives.mk) (by simp; exact Gives.mk) (by simp; exact Gives.mk) (by simp; exact Gives.mk) (fun _ => by first | exact hC) (by simp) (by simp) ?_ | refine run_callQ hc (by simp; exact Gives.mk) (by simp; exact Gives.mk) (by simp; exact Gives.mk) (by simp; exact Gives.mk) (by simp; exact Gives.mk) (fun _ => by first | exact hC) (by simp) (by simp) ?_ | refine run_ops hc (by simp; first | exact Ends.go | exact Ends.halt) (by decide) (by first | exact True.intro | omega | (simp; done) | (simp; omega) | (simp at *; omega)) ?_ | refine run_quiet hc (by simp; first | exact Ends.go | exact Ends.halt) (by decide) (by first | exact True.intro | omega | (simp; done) | (simp; omega) | (simp at *; omega)) ?_ | refine run_regionW hc (by simp; exact Ends.halt) (by first | exact True.intro | omega | (simp; done) | (simp; omega) | (simp at *; omega)) ?_ | refine run_drawN hc (by kernel_rfl) (by decide) (by kernel_rfl) (by simp; exact Ends.halt) (by first | exact True.intro | omega | (simp; done) | (simp; omega) | (simp at *; omega)) ?_ | fail))
  all_goals try contradiction
  have h01 : titR l m 0 = titR l m 1 := by
    rw [titR]
    split
    · rw [if_neg (by simp [bhd])]
    · rw [titR, if_neg (by omega)]
  refine ewp_loop (fun j : Nat => ⟨[(0, .d (byS l)), (5, .d (tokSu m)), (7, .d (int j))], []⟩) (fun j => 1 ≤ j ∧ j ≤ m.length + 1 ∧ titR l m 0 = titR l m j) (fun j => m.length + 1 - j) 1 ⟨by omega, by omega, h01⟩ (run_keep [0, 5, 7] [] (by simp; exact Gives.mk) (by simp; exact Gives.mk)) ?_
  rintro j ⟨h0, h1, h2⟩
  have h3 : titR l m j = if j < m.length then (if bhd m j [ttl] = true then some (tid (tx l m j)) else titR l m (j + 1)) else none := by rw [titR]
  have hj := hS j
  have e : ((j : Int) - 1).toNat = j - 1 := by omega
  repeat' (first | (first | refine ewp_seq ?_ | refine run_region hc (by simp; exact Ends.go) (by first | exact True.intro | omega | (simp; done) | (simp; omega) | (simp at *; omega)) ?_ | refine run_draw hc (by kernel_rfl) (by kernel_rfl) (by simp; exact Ends.go) (by first | exact True.intro | omega | (simp; done) | (simp; omega) | (simp at *; omega)) ?_ | refine ewp_scope ?_ | refine scopeQ_normal ?_ | refine scopeQ_ret ?_ | refine scopeQ_exit ?_ | refine ewp_skip ?_ | refine ewp_block ?_ | refine ewp_exit ?_ | refine ewp_label ?_ | refine thenQ_normal ?_ | refine thenQ_ret ?_ | refine thenQ_exit ?_ | refine blockQ_normal ?_ | refine blockQ_ret ?_ | refine blockQ_here ?_ | refine blockQ_there (by decide) ?_ | refine ewp_ret ?_ | refine opsW_nil ?_ | refine quietW_nil ?_ | (refine run_cond (by simp; exact Gives.mk) (fun hb => ?_) (fun hb => ?_) <;> (try simp at hb)) | fail) | (first | refine run_callW hc (by simp; exact Gives.mk) (by simp; exact Gives.mk) (by simp; exact Gives.mk) (by simp; exact Gives.mk) (by simp; exact Gives.mk) (fun _ => by first | exact trivial) (by simp) (by simp) ?_ | refine run_callQ hc (by simp; exact Gives.mk) (by simp; exact Gives.mk) (by simp; exact Gives.mk) (by simp; exact Gives.mk) (by simp; exact Gives.mk) (fun _ => by first | exact trivial) (by simp) (by simp) ?_ | refine run_ops hc (by simp; first | exact Ends.go | exact Ends.halt) (by decide) (by first | exact True.intro | omega | (simp; done) | (simp; omega) | (simp at *; omega)) ?_ | refine run_quiet hc (by simp; first | exact Ends.go | exact Ends.halt) (by decide) (by first | exact True.intro | omega | (simp; done) | (simp; omega) | (simp at *; omega)) ?_ | refine run_regionW hc (by simp; exact Ends.halt) (by first | exact True.intro | omega | (simp; done) | (simp; omega) | (simp at *; omega)) ?_ | refine run_drawN hc (by kernel_rfl) (by decide) (by kernel_rfl) (by simp; exact Ends.halt) (by first | exact True.intro | omega | (simp; done) | (simp; omega) | (simp at *; omega)) ?_ | fail))
  · have hbq : bhd m j [ttl] = true := by
      simp only [bhd, Bool.and_eq_true, decide_eq_true_eq, List.mem_singleton]
      exact ⟨⟨⟨by omega, by omega⟩, by omega⟩, hb.2⟩
    have hmt := rMeant_ok (sub l (m[j]?.getD .none).fr (m[j]?.getD .none).to) (by rw [sub_len]; have := hj (by assumption); omega)
    have htd := rSingle_ok (meant (sub l (m[j]?.getD .none).fr (m[j]?.getD .none).to)) (by have := meant_len (sub l (m[j]?.getD .none).fr (m[j]?.getD .none).to); rw [sub_len] at this; have := hj (by assumption); omega)
    repeat' (first | (first | refine ewp_seq ?_ | refine run_region hc (by simp; exact Ends.go) (by first | exact True.intro | omega | (simp; done) | (simp; omega) | (simp at *; omega)) ?_ | refine run_draw hc (by kernel_rfl) (by kernel_rfl) (by simp; exact Ends.go) (by first | exact True.intro | omega | (simp; done) | (simp; omega) | (simp at *; omega)) ?_ | refine ewp_scope ?_ | refine scopeQ_normal ?_ | refine scopeQ_ret ?_ | refine scopeQ_exit ?_ | refine ewp_skip ?_ | refine ewp_block ?_ | refine ewp_exit ?_ | refine ewp_label ?_ | refine thenQ_normal ?_ | refine thenQ_ret ?_ | refine thenQ_exit ?_ | refine blockQ_normal ?_ | refine blockQ_ret ?_ | refine blockQ_here ?_ | refine blockQ_there (by decide) ?_ | refine ewp_ret ?_ | refine opsW_nil ?_ | refine quietW_nil ?_ | (refine run_cond (by simp; exact Gives.mk) (fun hb => ?_) (fun hb => ?_) <;> (try simp at hb)) | fail) | (first | refine run_callW hc (by simp; exact Gives.mk) (by simp; exact Gives.mk) (by simp; exact Gives.mk) (by simp; exact Gives.mk) (by simp; exact Gives.mk) (fun _ => by first | exact hmt | exact htd) (by simp) (by simp) ?_ | refine run_callQ hc (by simp; exact Gives.mk) (by simp; exact Gives.mk) (by simp; exact Gives.mk) (by simp; exact Gives.mk) (by simp; exact Gives.mk) (fun _ => by first | exact hmt | exact htd) (by simp) (by simp) ?_ | refine run_ops hc (by simp; first | exact Ends.go | exact Ends.halt) (by decide) (by first | exact True.intro | omega | (simp; done) | (simp; omega) | (simp at *; omega)) ?_ | refine run_quiet hc (by simp; first | exact Ends.go | exact Ends.halt) (by decide) (by first | exact True.intro | omega | (simp; done) | (simp; omega) | (simp at *; omega)) ?_ | refine run_regionW hc (by simp; exact Ends.halt) (by first | exact True.intro | omega | (simp; done) | (simp; omega) | (simp at *; omega)) ?_ | refine run_drawN hc (by kernel_rfl) (by decide) (by kernel_rfl) (by simp; exact Ends.halt) (by first | exact True.intro | omega | (simp; done) | (simp; omega) | (simp at *; omega)) ?_ | fail))
    rw [h2, h3, if_pos (by assumption), if_pos hbq]
    (refine run_leave hc (by simp; exact Gives.mk) ?_)
    simp [tx]
  · have hbq : ¬ bhd m j [ttl] = true := by
      simp only [bhd, Bool.and_eq_true, decide_eq_true_eq, List.mem_singleton]
      exact fun h => hb (by have := h.1.1.1; omega) (by have := h.1.2; omega) h.2
    exact ⟨j + 1, ⟨by omega, by omega, by rw [h2, h3, if_pos (by assumption), if_neg hbq]⟩, by omega, run_back [0, 5, 7] [] (by simp; exact Gives.mk) (by simp; exact Gives.mk) (by simp)⟩
  · rw [h2, h3, if_neg (by omega)]
    (refine run_leave hc (by simp; exact Gives.mk) ?_)
    simp

/-! What a page says. -/
def raws : List Bs := [[115, 99, 114, 105, 112, 116], [115, 116, 121, 108, 101], ttl]
def incl (m : List Tk) (i : Nat) : Bool := decide ((m[i]?.getD .none).kind = 1) && !bhd m i raws
def sdT (l : Bs) (m : List Tk) : Nat → List Bs
  | 0 => []
  | i + 1 => if incl m i = true then sdT l m i ++ [tx l m i] else sdT l m i
theorem sdT_len (l : Bs) (m : List Tk) (i : Nat) : (sdT l m i).length ≤ i := by
  induction i with
  | zero => simp [sdT]
  | succ i ih =>
    unfold sdT
    split
    · simp; omega
    · omega
theorem join_push (L : List Bs) (x s : Bs) : Lib.join (L ++ [x]) s = if L = [] then x else Lib.join L s ++ s ++ x := by
  cases L with
  | nil => simp [Lib.join]
  | cons y L =>
    rw [if_neg (by simp)]
    unfold Lib.join
    induction L generalizing y with
    | nil => simp
    | cons z L ih =>
      have := ih z
      simp only [List.cons_append, List.intercalate_cons_cons, List.append_assoc] at this ⊢
      rw [this]
theorem sdT_join (l : Bs) (m : List Tk) (hS : ∀ i, i < m.length → 0 ≤ (m[i]?.getD .none).fr ∧ (m[i]?.getD .none).fr < (m[i]?.getD .none).to ∧ (m[i]?.getD .none).to ≤ l.length) (hl : l.length ≤ 200000) (i : Nat) (hi : i ≤ m.length) : (Lib.join (sdT l m i) [32]).length ≤ 200001 * i := by
  induction i with
  | zero => simp [sdT, Lib.join]
  | succ i ih =>
    have h1 := ih (by omega)
    have h2 := hS i (by omega)
    have h3 := meant_len (sub l (m[i]?.getD .none).fr (m[i]?.getD .none).to)
    rw [sub_len] at h3
    unfold sdT
    split
    · rw [join_push]
      split
      · unfold tx; omega
      · simp [tx]; omega
    · omega
theorem said_ok (l : Bs) (hm : l.length ≤ maxLen) : FnOk Try.prog 17 [byS l] (if l.length ≤ 200000 ∧ (run l 0 0 []).length ≤ 20000 then .tup [str (tid (Lib.join (sdT l (run l 0 0 []) (run l 0 0 []).length) [32])), int 0] else .tup [str [], int 2]) := by
  have hC := checkedU_ok l hm
  refine fnOk Try.func17 rfl (by kernel_rfl) Try.ntmps17 _ rfl (by simp) fun C hc => ?_
  unfold maxLen at hm
  by_cases h : l.length ≤ 200000 ∧ (run l 0 0 []).length ≤ 20000
  rotate_left
  · rw [if_neg h] at hC ⊢
    repeat' (first | (first | refine ewp_seq ?_ | refine run_region hc (by simp; exact Ends.go) (by first | exact True.intro | omega | (simp; done) | (simp; omega) | (simp at *; omega)) ?_ | refine run_draw hc (by kernel_rfl) (by kernel_rfl) (by simp; exact Ends.go) (by first | exact True.intro | omega | (simp; done) | (simp; omega) | (simp at *; omega)) ?_ | refine ewp_scope ?_ | refine scopeQ_normal ?_ | refine scopeQ_ret ?_ | refine scopeQ_exit ?_ | refine ewp_skip ?_ | refine ewp_block ?_ | refine ewp_exit ?_ | refine ewp_label ?_ | refine thenQ_normal ?_ | refine thenQ_ret ?_ | refine thenQ_exit ?_ | refine blockQ_normal ?_ | refine blockQ_ret ?_ | refine blockQ_here ?_ | refine blockQ_there (by decide) ?_ | refine ewp_ret ?_ | refine opsW_nil ?_ | refine quietW_nil ?_ | (refine run_cond (by simp; exact Gives.mk) (fun hb => ?_) (fun hb => ?_) <;> (try simp at hb)) | fail) | (first | refine run_callW hc (by simp; exact Gives.mk) (by simp; exact Gives.mk) (by simp; exact Gives.mk) (by simp; exact Gives.mk) (by simp; exact Gives.mk) (fun _ => by first | exact hC) (by simp) (by simp) ?_ | refine run_callQ hc (by simp; exact Gives.mk) (by simp; exact Gives.mk) (by simp; exact Gives.mk) (by simp; exact Gives.mk) (by simp; exact Gives.mk) (fun _ => by first | exact hC) (by simp) (by simp) ?_ | refine run_ops hc (by simp; first | exact Ends.go | exact Ends.halt) (by decide) (by first | exact True.intro | omega | (simp; done) | (simp; omega) | (simp at *; omega)) ?_ | refine run_quiet hc (by simp; first | exact Ends.go | exact Ends.halt) (by decide) (by first | exact True.intro | omega | (simp; done) | (simp; omega) | (simp at *; omega)) ?_ | refine run_regionW hc (by simp; exact Ends.halt) (by first | exact True.intro | omega | (simp; done) | (simp; omega) | (simp at *; omega)) ?_ | refine run_drawN hc (by kernel_rfl) (by decide) (by kernel_rfl) (by simp; exact Ends.halt) (by first | exact True.intro | omega | (simp; done) | (simp; omega) | (simp at *; omega)) ?_ | fail))
    all_goals try contradiction
    (refine run_leave hc (by simp; exact Gives.mk) ?_)
    simp
  have hS := (run_side l h.1 l.length 0 0 [] (by omega) (Nat.le_refl _) (by omega) rfl h.2).get.2
  rw [if_pos h] at hC ⊢
  have hml := h.2
  generalize run l 0 0 [] = m at hC hS hml ⊢
  repeat' (first | (first | refine ewp_seq ?_ | refine run_region hc (by simp; exact Ends.go) (by first | exact True.intro | omega | (simp; done) | (simp; omega) | (simp at *; omega)) ?_ | refine run_draw hc (by kernel_rfl) (by kernel_rfl) (by simp; exact Ends.go) (by first | exact True.intro | omega | (simp; done) | (simp; omega) | (simp at *; omega)) ?_ | refine ewp_scope ?_ | refine scopeQ_normal ?_ | refine scopeQ_ret ?_ | refine scopeQ_exit ?_ | refine ewp_skip ?_ | refine ewp_block ?_ | refine ewp_exit ?_ | refine ewp_label ?_ | refine thenQ_normal ?_ | refine thenQ_ret ?_ | refine thenQ_exit ?_ | refine blockQ_normal ?_ | refine blockQ_ret ?_ | refine blockQ_here ?_ | refine blockQ_there (by decide) ?_ | refine ewp_ret ?_ | refine opsW_nil ?_ | refine quietW_nil ?_ | (refine run_cond (by simp; exact Gives.mk) (fun hb => ?_) (fun hb => ?_) <;> (try simp at hb)) | fail) | (first | refine run_callW hc (by simp; exact Gives.mk) (by simp; exact Gives.mk) (by simp; exact Gives.mk) (by simp; exact Gives.mk) (by simp; exact Gives.mk) (fun _ => by first | exact hC) (by simp) (by simp) ?_ | refine run_callQ hc (by simp; exact Gives.mk) (by simp; exact Gives.mk) (by simp; exact Gives.mk) (by simp; exact Gives.mk) (by simp; exact Gives.mk) (fun _ => by first | exact hC) (by simp) (by simp) ?_ | refine run_ops hc (by simp; first | exact Ends.go | exact Ends.halt) (by decide) (by first | exact True.intro | omega | (simp; done) | (simp; omega) | (simp at *; omega)) ?_ | refine run_quiet hc (by simp; first | exact Ends.go | exact Ends.halt) (by decide) (by first | exact True.intro | omega | (simp; done) | (simp; omega) | (simp at *; omega)) ?_ | refine run_regionW hc (by simp; exact Ends.halt) (by first | exact True.intro | omega | (simp; done) | (simp; omega) | (simp at *; omega)) ?_ | refine run_drawN hc (by kernel_rfl) (by decide) (by kernel_rfl) (by simp; exact Ends.halt) (by first | exact True.intro | omega | (simp; done) | (simp; omega) | (simp at *; omega)) ?_ | fail))
  all_goals try contradiction
  refine ewp_loop (fun x : Nat × List Bs => ⟨[(0, .d (byS l)), (4, .d (tokSu m)), (6, .os 40000 x.2.length), (17, .d (tokSu m)), (18, .d (int m.length)), (19, .d (int x.1))], [(40000, .own 9 1 (true, [str []]) (x.2.map fun x => [str x]))]⟩) (fun x => x.1 ≤ m.length ∧ x.2 = sdT l m x.1) (fun x => m.length - x.1) (0, []) (by simp [sdT]) (run_keepB [(6, none, 40000, 9, [str []])] [0, 4, 6, 17, 18, 19] [40000] (by simp; exact Gives.mk) (by simp; exact Gives.mk) (by simp; exact Gives.mk)) ?_
  rintro ⟨j, L⟩ ⟨h1, h2⟩
  simp only at h1 h2 ⊢
  have hLl : L.length ≤ j := by rw [h2]; exact sdT_len l m j
  have hj := hS j
  have hsd : sdT l m (j + 1) = if incl m j = true then L ++ [tx l m j] else L := by rw [h2]; rfl
  have hbh := fun hj => behind_ok m j raws hj hml (by simp [raws])
  by_cases hjm : j < m.length
  rotate_left
  · have hje : j = m.length := by omega
    have hbd := sdT_join l m hS h.1 m.length (Nat.le_refl _)
    subst hje
    rw [← h2] at hbd ⊢
    have hjn : FnOk Try.prog 30 [.sl L.length fun i => [str (L[i]?.getD [])], str [32]] (str (Lib.join L [32])) := by
      rw [show (D.sl L.length fun i => [str (L[i]?.getD [])]) = strSl L by simp [strSl]]
      exact join_ok L [32] (by omega) (by omega)
    have htd := tidy_ok (Lib.join L [32]) (by omega)
    repeat' (first | (first | refine ewp_seq ?_ | refine run_region hc (by simp; exact Ends.go) (by first | exact True.intro | omega | (simp; done) | (simp; omega) | (simp at *; omega)) ?_ | refine run_draw hc (by kernel_rfl) (by kernel_rfl) (by simp; exact Ends.go) (by first | exact True.intro | omega | (simp; done) | (simp; omega) | (simp at *; omega)) ?_ | refine ewp_scope ?_ | refine scopeQ_normal ?_ | refine scopeQ_ret ?_ | refine scopeQ_exit ?_ | refine ewp_skip ?_ | refine ewp_block ?_ | refine ewp_exit ?_ | refine ewp_label ?_ | refine thenQ_normal ?_ | refine thenQ_ret ?_ | refine thenQ_exit ?_ | refine blockQ_normal ?_ | refine blockQ_ret ?_ | refine blockQ_here ?_ | refine blockQ_there (by decide) ?_ | refine ewp_ret ?_ | refine opsW_nil ?_ | refine quietW_nil ?_ | (refine run_cond (by simp; exact Gives.mk) (fun hb => ?_) (fun hb => ?_) <;> (try simp at hb)) | fail) | (first | refine run_callW hc (by simp; exact Gives.mk) (by simp; exact Gives.mk) (by simp; exact Gives.mk) (by simp; exact Gives.mk) (by simp; exact Gives.mk) (fun _ => by first | exact hjn | exact htd) (by simp) (by simp) ?_ | refine run_callQ hc (by simp; exact Gives.mk) (by simp; exact Gives.mk) (by simp; exact Gives.mk) (by simp; exact Gives.mk) (by simp; exact Gives.mk) (fun _ => by first | exact hjn | exact htd) (by simp) (by simp) ?_ | refine run_ops hc (by simp; first | exact Ends.go | exact Ends.halt) (by decide) (by first | exact True.intro | omega | (simp; done) | (simp; omega) | (simp at *; omega)) ?_ | refine run_quiet hc (by simp; first | exact Ends.go | exact Ends.halt) (by decide) (by first | exact True.intro | omega | (simp; done) | (simp; omega) | (simp at *; omega)) ?_ | refine run_regionW hc (by simp; exact Ends.halt) (by first | exact True.intro | omega | (simp; done) | (simp; omega) | (simp at *; omega)) ?_ | refine run_drawN hc (by kernel_rfl) (by decide) (by kernel_rfl) (by simp; exact Ends.halt) (by first | exact True.intro | omega | (simp; done) | (simp; omega) | (simp at *; omega)) ?_ | fail))
    all_goals try contradiction
    (refine run_leave hc (by simp; exact Gives.mk) ?_)
    simp
  by_cases hk : (m[j]?.getD .none).kind = 1
  · have hmt := meantP_ok (sub l (m[j]?.getD .none).fr (m[j]?.getD .none).to) (by rw [sub_len]; have := hj hjm; omega)
    have hi : incl m j = !bhd m j raws := by simp [incl, hk]
    rw [hi] at hsd
    repeat' (first | (first | refine ewp_seq ?_ | refine run_region hc (by simp [hk]; exact Ends.go) (by first | exact True.intro | omega | (simp; done) | (simp; omega) | (simp at *; omega)) ?_ | refine run_draw hc (by kernel_rfl) (by kernel_rfl) (by simp [hk]; exact Ends.go) (by first | exact True.intro | omega | (simp; done) | (simp; omega) | (simp at *; omega)) ?_ | refine ewp_scope ?_ | refine scopeQ_normal ?_ | refine scopeQ_ret ?_ | refine scopeQ_exit ?_ | refine ewp_skip ?_ | refine ewp_block ?_ | refine ewp_exit ?_ | refine ewp_label ?_ | refine thenQ_normal ?_ | refine thenQ_ret ?_ | refine thenQ_exit ?_ | refine blockQ_normal ?_ | refine blockQ_ret ?_ | refine blockQ_here ?_ | refine blockQ_there (by decide) ?_ | refine ewp_ret ?_ | refine opsW_nil ?_ | refine quietW_nil ?_ | (refine run_cond (by simp [hk]; exact Gives.mk) (fun hb => ?_) (fun hb => ?_) <;> (try simp at hb)) | fail) | (first | refine run_callW hc (by simp [hk]; exact Gives.mk) (by simp [hk]; exact Gives.mk) (by simp [hk]; exact Gives.mk) (by simp [hk]; exact Gives.mk) (by simp [hk]; exact Gives.mk) (fun _ => by first | exact hbh hjm | exact hmt) (by simp) (by simp) ?_ | refine run_callQ hc (by simp [hk]; exact Gives.mk) (by simp [hk]; exact Gives.mk) (by simp [hk]; exact Gives.mk) (by simp [hk]; exact Gives.mk) (by simp [hk]; exact Gives.mk) (fun _ => by first | exact hbh hjm | exact hmt) (by simp) (by simp) ?_ | refine run_ops hc (by simp [hk]; first | exact Ends.go | exact Ends.halt) (by decide) (by first | exact True.intro | omega | (simp; done) | (simp; omega) | (simp at *; omega)) ?_ | refine run_quiet hc (by simp [hk]; first | exact Ends.go | exact Ends.halt) (by decide) (by first | exact True.intro | omega | (simp; done) | (simp; omega) | (simp at *; omega)) ?_ | refine run_regionW hc (by simp [hk]; exact Ends.halt) (by first | exact True.intro | omega | (simp; done) | (simp; omega) | (simp at *; omega)) ?_ | refine run_drawN hc (by kernel_rfl) (by decide) (by kernel_rfl) (by simp [hk]; exact Ends.halt) (by first | exact True.intro | omega | (simp; done) | (simp; omega) | (simp at *; omega)) ?_ | fail))
    · rw [hb] at hsd
      exact ⟨(j + 1, L ++ [tx l m j]), ⟨by simp; omega, by rw [hsd]; rfl⟩, by simp; omega, run_back [0, 4, 6, 17, 18, 19] [40000] (by simp; exact Gives.mk) (by simp; exact Gives.mk) (by simp [tx])⟩
    · rw [hb] at hsd
      exact ⟨(j + 1, L), ⟨by simp; omega, by rw [hsd]; rfl⟩, by simp; omega, run_back [0, 4, 6, 17, 18, 19] [40000] (by simp; exact Gives.mk) (by simp; exact Gives.mk) (by simp)⟩
    · exfalso; omega
  · have hk' : (((m[j]?.getD .none).kind : Int) == 1) = false := by simp; omega
    have hi : incl m j = false := by simp [incl, hk]
    rw [hi] at hsd
    repeat' (first | (first | refine ewp_seq ?_ | refine run_region hc (by simp [hk', hk]; exact Ends.go) (by first | exact True.intro | omega | (simp; done) | (simp; omega) | (simp at *; omega)) ?_ | refine run_draw hc (by kernel_rfl) (by kernel_rfl) (by simp [hk', hk]; exact Ends.go) (by first | exact True.intro | omega | (simp; done) | (simp; omega) | (simp at *; omega)) ?_ | refine ewp_scope ?_ | refine scopeQ_normal ?_ | refine scopeQ_ret ?_ | refine scopeQ_exit ?_ | refine ewp_skip ?_ | refine ewp_block ?_ | refine ewp_exit ?_ | refine ewp_label ?_ | refine thenQ_normal ?_ | refine thenQ_ret ?_ | refine thenQ_exit ?_ | refine blockQ_normal ?_ | refine blockQ_ret ?_ | refine blockQ_here ?_ | refine blockQ_there (by decide) ?_ | refine ewp_ret ?_ | refine opsW_nil ?_ | refine quietW_nil ?_ | (refine run_cond (by simp [hk', hk]; exact Gives.mk) (fun hb => ?_) (fun hb => ?_) <;> (try simp at hb)) | fail) | (first | refine run_callW hc (by simp [hk', hk]; exact Gives.mk) (by simp [hk', hk]; exact Gives.mk) (by simp [hk', hk]; exact Gives.mk) (by simp [hk', hk]; exact Gives.mk) (by simp [hk', hk]; exact Gives.mk) (fun _ => by first | exact trivial) (by simp) (by simp) ?_ | refine run_callQ hc (by simp [hk', hk]; exact Gives.mk) (by simp [hk', hk]; exact Gives.mk) (by simp [hk', hk]; exact Gives.mk) (by simp [hk', hk]; exact Gives.mk) (by simp [hk', hk]; exact Gives.mk) (fun _ => by first | exact trivial) (by simp) (by simp) ?_ | refine run_ops hc (by simp [hk', hk]; first | exact Ends.go | exact Ends.halt) (by decide) (by first | exact True.intro | omega | (simp; done) | (simp; omega) | (simp at *; omega)) ?_ | refine run_quiet hc (by simp [hk', hk]; first | exact Ends.go | exact Ends.halt) (by decide) (by first | exact True.intro | omega | (simp; done) | (simp; omega) | (simp at *; omega)) ?_ | refine run_regionW hc (by simp [hk', hk]; exact Ends.halt) (by first | exact True.intro | omega | (simp; done) | (simp; omega) | (simp at *; omega)) ?_ | refine run_drawN hc (by kernel_rfl) (by decide) (by kernel_rfl) (by simp [hk', hk]; exact Ends.halt) (by first | exact True.intro | omega | (simp; done) | (simp; omega) | (simp at *; omega)) ?_ | fail) | (first | refine run_skip hc (by simp [hk', hk]; exact Gives.mk) (by simp) ?_ | fail))
    · exact ⟨(j + 1, L), ⟨by simp; omega, by rw [hsd]; rfl⟩, by simp; omega, run_back [0, 4, 6, 17, 18, 19] [40000] (by simp; exact Gives.mk) (by simp; exact Gives.mk) (by simp)⟩
    · exfalso; omega
end Go.Proofs.Ytgebkjngnfdeiaa
