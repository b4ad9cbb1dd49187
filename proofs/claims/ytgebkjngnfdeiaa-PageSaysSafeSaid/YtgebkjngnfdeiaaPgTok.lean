/-
  PAGE: the page divided into tokens. (WITH run_drawN.)
-/
import Derived.Test.YtgebkjngnfdeiaaPgRaw
set_option linter.unusedSimpArgs false
set_option linter.unusedVariables false
namespace Go.Proofs.Ytgebkjngnfdeiaa
open Go.Lw
set_option maxRecDepth 100000
set_option maxHeartbeats 1000000

@[simp] theorem take_two {α β : Type} (f : α → β) (m x : List α) : List.take (m.length + x.length) (List.map f m ++ List.map f x) = List.map f m ++ List.map f x := List.take_of_length_le (by simp)
def txt (a b : Nat) : List Tk := if a < b then [⟨1, a, b, [], []⟩] else []
abbrev dfT : List D := [.lit (.int .i64 0), .lit (.int .i64 0), .lit (.int .i64 0), .lit (.string (bs [])), .lit (.slice none 0 0)]
abbrev outO (x y : Nat) (m : List Tk) : List (Nat × O) := [(x, .box 29 [.os y m.length]), (y, .own 36 5 (true, dfT) (m.map encT))]
theorem text_ok (a b : Nat) (m : List Tk) (hm : m.length ≤ 300000) (hb : b ≤ 200000) (ha : a ≤ 200000) :
    FnMem Try.prog 56 [.d (int a), .d (int b), .bp 100000 0] (outO 100000 50001 m) (.d (.tup [])) (outO 100000 50001 (m ++ txt a b)) := by
  refine fnMem Try.func56 rfl (by kernel_rfl) Try.ntmps56 _ rfl (by simp) fun C hc => ?_
  unfold txt
  repeat' (first | (first | refine ewp_seq ?_ | refine run_region hc (by simp; exact Ends.go) (by first | exact True.intro | omega | (simp; done) | (simp; omega) | (simp at *; omega)) ?_ | refine run_draw hc (by kernel_rfl) (by kernel_rfl) (by simp; exact Ends.go) (by first | exact True.intro | omega | (simp; done) | (simp; omega) | (simp at *; omega)) ?_ | refine ewp_scope ?_ | refine scopeQ_normal ?_ | refine scopeQ_ret ?_ | refine scopeQ_exit ?_ | refine ewp_skip ?_ | refine ewp_block ?_ | refine ewp_exit ?_ | refine ewp_label ?_ | refine thenQ_normal ?_ | refine thenQ_ret ?_ | refine thenQ_exit ?_ | refine blockQ_normal ?_ | refine blockQ_ret ?_ | refine blockQ_here ?_ | refine blockQ_there (by decide) ?_ | refine ewp_ret ?_ | refine opsW_nil ?_ | refine quietW_nil ?_ | (refine run_cond (by simp; exact Gives.mk) (fun hb => ?_) (fun hb => ?_) <;> (try simp at hb)) | fail) | (first | refine run_callW hc (by simp; exact Gives.mk) (by simp; exact Gives.mk) (by simp; exact Gives.mk) (by simp; exact Gives.mk) (by simp; exact Gives.mk) (fun _ => by first | exact trivial) (by simp) (by simp) ?_ | refine run_callQ hc (by simp; exact Gives.mk) (by simp; exact Gives.mk) (by simp; exact Gives.mk) (by simp; exact Gives.mk) (by simp; exact Gives.mk) (fun _ => by first | exact trivial) (by simp) (by simp) ?_ | refine run_ops hc (by simp; first | exact Ends.go | exact Ends.halt) (by decide) (by first | exact True.intro | omega | (simp; done) | (simp; omega) | (simp at *; omega)) ?_ | refine run_quiet hc (by simp; first | exact Ends.go | exact Ends.halt) (by decide) (by first | exact True.intro | omega | (simp; done) | (simp; omega) | (simp at *; omega)) ?_ | refine run_regionW hc (by simp; exact Ends.halt) (by first | exact True.intro | omega | (simp; done) | (simp; omega) | (simp at *; omega)) ?_ | refine run_drawN hc (by kernel_rfl) (by decide) (by kernel_rfl) (by simp; exact Ends.halt) (by first | exact True.intro | omega | (simp; done) | (simp; omega) | (simp at *; omega)) ?_ | fail))
  · rw [if_pos hb]
    (refine run_leaveM_end [100000, 50001] hc (le_end rfl) (by simp; exact Gives.mk) (by simp; exact Gives.mk) (by first | (simp; done) | (simp; omega)) ?_)
    simp
  · rw [if_neg (by omega)]
    (refine run_leaveM_end [100000, 50001] hc (le_end rfl) (by simp; exact Gives.mk) (by simp; exact Gives.mk) (by first | (simp; done) | (simp; omega)) ?_)
    simp

/-! What is still to come. -/
theorem shut_name {l : Bs} {i : Nat} {r : Bs × Nat} (h : (shut l i).1 = some r) : r.1.length ≤ l.length := by
  unfold shut at h
  split at h
  · split at h
    · obtain rfl := Option.some.inj h
      simp; omega
    · cases h
  · cases h
theorem opn_name {l : Bs} {i : Nat} {r : Bs × List Atr × Nat} (h : (opn l i).1 = some r) : r.1.length ≤ l.length := by
  unfold opn at h
  split at h
  · split at h
    · cases h
    · simp only at h
      split at h
      · split at h
        · obtain rfl := Option.some.inj h
          simp; omega
        · cases h
      · split at h
        · obtain rfl := Option.some.inj h
          simp; omega
        · cases h
  · cases h
theorem tok_le {l : Bs} {i : Nat} {t : Tk} (hi : i ≤ l.length) (h : tok l i = some t) : i + 1 ≤ t.to ∧ t.to ≤ l.length ∧ t.fr = i ∧ (t.kind = 2 → 2 ≤ t.to) ∧ t.name.length ≤ l.length ∧ (∀ a ∈ t.atts, i ≤ a.fr ∧ a.fr ≤ a.to ∧ a.to ≤ t.to ∧ (a.has = false → a.fr = a.to)) := by
  unfold tok at h
  have h1 := fun j => cmt_le (l := l) (i := i) (j := j) hi
  have h2 := shut_le (l := l) hi
  have h3 := opn_le (l := l) hi
  split at h
  · rename_i j hj
    obtain rfl := Option.some.inj h
    have := h1 j hj
    simp; omega
  · split at h
    · rename_i r hr
      obtain rfl := Option.some.inj h
      have h4 := h2.2 r hr
      have h5 := shut_name hr
      refine ⟨by simp; omega, by simp; omega, rfl, by simp, h5, by simp⟩
    · split at h
      · rename_i r hr
        obtain rfl := Option.some.inj h
        have h4 := h3.2 r hr
        have h5 := opn_name hr
        exact ⟨by simp; omega, by simp; omega, rfl, by simp; omega, h5, h4.2.2.1⟩
      · cases h
def parts (l : Bs) (fr i : Nat) : List Tk :=
  if h : i < l.length then
    match ht : tok l i with
    | none => parts l fr (i + 1)
    | some t =>
      if rawB l t = true then txt fr i ++ t :: (txt t.to (rawE l t.to t.name) ++ parts l (rawE l t.to t.name) (rawE l t.to t.name))
      else txt fr i ++ t :: parts l t.to t.to
  else txt fr l.length
termination_by l.length - i
decreasing_by
  · omega
  · have h1 := tok_le (by omega) ht
    have h2 := rawE_le l t.to t.name h1.2.1
    omega
  · have h1 := tok_le (by omega) ht
    omega
/-- So goes the page: it stops where there are too many. -/
def run (l : Bs) (fr i : Nat) (m : List Tk) : List Tk :=
  if h : i < l.length ∧ m.length ≤ 20000 then
    match ht : tok l i with
    | none => run l fr (i + 1) m
    | some t =>
      if rawB l t = true then run l (rawE l t.to t.name) (rawE l t.to t.name) (m ++ txt fr i ++ t :: txt t.to (rawE l t.to t.name))
      else run l t.to t.to (m ++ txt fr i ++ [t])
  else m ++ txt fr l.length
termination_by l.length - i
decreasing_by
  · omega
  · have h1 := tok_le (by omega) ht
    have h2 := rawE_le l t.to t.name h1.2.1
    omega
  · have h1 := tok_le (by omega) ht
    omega
theorem run_none {l : Bs} {fr i : Nat} {m : List Tk} (h : i < l.length) (hm : m.length ≤ 20000) (ht : tok l i = none) : run l fr i m = run l fr (i + 1) m := by
  rw [run, dif_pos ⟨h, hm⟩]
  split
  · rfl
  · rename_i t h'; rw [ht] at h'; cases h'
theorem run_some {l : Bs} {fr i : Nat} {m : List Tk} {t : Tk} (h : i < l.length) (hm : m.length ≤ 20000) (ht : tok l i = some t) : run l fr i m = if rawB l t = true then run l (rawE l t.to t.name) (rawE l t.to t.name) (m ++ txt fr i ++ t :: txt t.to (rawE l t.to t.name)) else run l t.to t.to (m ++ txt fr i ++ [t]) := by
  rw [run, dif_pos ⟨h, hm⟩]
  split
  · rename_i h'; rw [ht] at h'; cases h'
  · rename_i t' h'
    rw [ht] at h'
    cases h'
    rfl
theorem run_end {l : Bs} {fr i : Nat} {m : List Tk} (h : ¬ (i < l.length ∧ m.length ≤ 20000)) : run l fr i m = m ++ txt fr l.length := by rw [run, dif_neg h]
theorem tok_lt {l : Bs} {i : Nat} (h : l[i]? ≠ some 60) : tok l i = none := by
  have h0 : ∀ p : Bs, (60 :: p).isPrefixOf (l.drop i) = false := by
    intro p
    by_cases hi : i < l.length
    · rw [List.drop_eq_getElem_cons hi]
      rw [List.getElem?_eq_getElem hi] at h
      have : ((60 : UInt8) == l[i]) = false := by
        rw [beq_eq_false_iff_ne]
        exact fun e => h (by rw [e])
      simp [List.isPrefixOf, this]
    · rw [List.drop_of_length_le (by omega)]
      rfl
  have e1 : cmt l i = none := by unfold cmt; rw [h0]; simp
  have e2 : (shut l i).1 = none := by unfold shut; rw [h0]; simp
  have e3 : (opn l i).1 = none := by unfold opn; rw [if_neg h]
  unfold tok
  rw [e1, e2, e3]
theorem txt_len (a b : Nat) : (txt a b).length ≤ 1 := by unfold txt; split <;> simp
abbrev tokSl (m : List Tk) : D := .sl m.length fun i => encT (m[i]?.getD .none)
@[simp] theorem getD_encT (o : Option Tk) : (Option.map encT o).getD dfT = encT (o.getD .none) := by cases o <;> rfl
theorem tokens_ok (l : Bs) (hm : l.length ≤ 200000) : FnOk Try.prog 41 [str l] (.tup [tokSl (run l 0 0 []), tru (decide ((run l 0 0 []).length ≤ 20000))]) := by
  refine fnOk Try.func41 rfl (by kernel_rfl) Try.ntmps41 _ rfl (by simp) fun C hc => ?_
  repeat' (first | refine ewp_seq ?_ | refine run_region hc (by simp; exact Ends.go) (by first | exact True.intro | omega | (simp; done) | (simp; omega) | (simp at *; omega)) ?_ | refine run_draw hc (by kernel_rfl) (by kernel_rfl) (by simp; exact Ends.go) (by first | exact True.intro | omega | (simp; done) | (simp; omega) | (simp at *; omega)) ?_ | refine ewp_scope ?_ | refine scopeQ_normal ?_ | refine scopeQ_ret ?_ | refine scopeQ_exit ?_ | refine ewp_skip ?_ | refine ewp_block ?_ | refine ewp_exit ?_ | refine ewp_label ?_ | refine thenQ_normal ?_ | refine thenQ_ret ?_ | refine thenQ_exit ?_ | refine blockQ_normal ?_ | refine blockQ_ret ?_ | refine blockQ_here ?_ | refine blockQ_there (by decide) ?_ | refine ewp_ret ?_ | refine opsW_nil ?_ | refine quietW_nil ?_ | (refine run_cond (by simp; exact Gives.mk) (fun hb => ?_) (fun hb => ?_) <;> (try simp at hb)) | fail)
  refine ewp_loop (fun x : Nat × Nat × List Tk => ⟨[(0, .d (str l)), (4, .bp 14 0), (5, .bp 5 0), (6, .vclo (.func 56) [.bp 5 0]), (7, .d (int x.2.1))], [(14, .box 86 [.d (str l), .d (int x.1)]), (5, .box 29 [.os 40000 x.2.2.length]), (40000, .own 36 5 (true, dfT) (x.2.2.map encT))]⟩)
    (fun x => x.1 ≤ l.length ∧ x.2.1 ≤ l.length ∧ x.2.2.length ≤ 20003 ∧ run l 0 0 [] = run l x.2.1 x.1 x.2.2) (fun x => l.length - x.1) (0, 0, []) (by simp) (run_keepB [(5, some 0, 40000, 36, dfT)] [0, 4, 5, 6, 7] [14, 5, 40000] (by simp; exact Gives.mk) (by simp; exact Gives.mk) (by simp; exact Gives.mk)) ?_
  rintro ⟨i, fr, m⟩ ⟨h1, h2, h3, h4⟩
  simp only at h1 h2 h3 h4 ⊢
  repeat' (first | refine ewp_seq ?_ | refine run_region hc (by simp; exact Ends.go) (by first | exact True.intro | omega | (simp; done) | (simp; omega) | (simp at *; omega)) ?_ | refine run_draw hc (by kernel_rfl) (by kernel_rfl) (by simp; exact Ends.go) (by first | exact True.intro | omega | (simp; done) | (simp; omega) | (simp at *; omega)) ?_ | refine ewp_scope ?_ | refine scopeQ_normal ?_ | refine scopeQ_ret ?_ | refine scopeQ_exit ?_ | refine ewp_skip ?_ | refine ewp_block ?_ | refine ewp_exit ?_ | refine ewp_label ?_ | refine thenQ_normal ?_ | refine thenQ_ret ?_ | refine thenQ_exit ?_ | refine blockQ_normal ?_ | refine blockQ_ret ?_ | refine blockQ_here ?_ | refine blockQ_there (by decide) ?_ | refine ewp_ret ?_ | refine opsW_nil ?_ | refine quietW_nil ?_ | (refine run_cond (by simp; exact Gives.mk) (fun hb => ?_) (fun hb => ?_) <;> (try simp at hb)) | fail)
  · have ht : tok l i = none := tok_lt (by
      intro e
      rw [e] at hb
      simp at hb)
    have hx : i < l.length := by omega
    exact ⟨(i + 1, fr, m), ⟨by simp; omega, h2, h3, by rw [h4, run_none hx (by omega) ht]⟩, by simp; omega, run_back [0, 4, 5, 6, 7] [14, 5, 40000] (by simp; exact Gives.mk) (by simp; exact Gives.mk) (by simp)⟩
  · have htk := token_ok l i h1 hm
    have hle := fun t => tok_le (l := l) (i := i) (t := t) h1
    have hno := fun h2 h3 h => run_none (l := l) (fr := fr) (i := i) (m := m) h2 h3 h
    have hso := fun t h2 h3 h => run_some (l := l) (fr := fr) (i := i) (m := m) (t := t) h2 h3 h
    generalize tok l i = t at htk hle hno hso
    obtain _ | t := t
    · simp only [tokD, Option.map_none, Option.getD_none] at htk
      repeat' (first | (first | refine ewp_seq ?_ | refine run_region hc (by simp; exact Ends.go) (by first | exact True.intro | omega | (simp; done) | (simp; omega) | (simp at *; omega)) ?_ | refine run_draw hc (by kernel_rfl) (by kernel_rfl) (by simp; exact Ends.go) (by first | exact True.intro | omega | (simp; done) | (simp; omega) | (simp at *; omega)) ?_ | refine ewp_scope ?_ | refine scopeQ_normal ?_ | refine scopeQ_ret ?_ | refine scopeQ_exit ?_ | refine ewp_skip ?_ | refine ewp_block ?_ | refine ewp_exit ?_ | refine ewp_label ?_ | refine thenQ_normal ?_ | refine thenQ_ret ?_ | refine thenQ_exit ?_ | refine blockQ_normal ?_ | refine blockQ_ret ?_ | refine blockQ_here ?_ | refine blockQ_there (by decide) ?_ | refine ewp_ret ?_ | refine opsW_nil ?_ | refine quietW_nil ?_ | (refine run_cond (by simp; exact Gives.mk) (fun hb => ?_) (fun hb => ?_) <;> (try simp at hb)) | fail) | (first | refine run_callW hc (by simp; exact Gives.mk) (by simp; exact Gives.mk) (by simp; exact Gives.mk) (by simp; exact Gives.mk) (by simp; exact Gives.mk) (fun _ => by first | exact trivial) (by simp) (by simp) ?_ | refine run_callQ hc (by simp; exact Gives.mk) (by simp; exact Gives.mk) (by simp; exact Gives.mk) (by simp; exact Gives.mk) (by simp; exact Gives.mk) (fun _ => by first | exact trivial) (by simp) (by simp) ?_ | refine run_ops hc (by simp; first | exact Ends.go | exact Ends.halt) (by decide) (by first | exact True.intro | omega | (simp; done) | (simp; omega) | (simp at *; omega)) ?_ | refine run_quiet hc (by simp; first | exact Ends.go | exact Ends.halt) (by decide) (by first | exact True.intro | omega | (simp; done) | (simp; omega) | (simp at *; omega)) ?_ | refine run_regionW hc (by simp; exact Ends.halt) (by first | exact True.intro | omega | (simp; done) | (simp; omega) | (simp at *; omega)) ?_ | refine run_drawN hc (by kernel_rfl) (by decide) (by kernel_rfl) (by simp; exact Ends.halt) (by first | exact True.intro | omega | (simp; done) | (simp; omega) | (simp at *; omega)) ?_ | fail) | (first | refine run_callM ([(100000, 14)]) (htk) hc (by simp; exact Gives.mk) (by simp; exact Gives.mk) (by simp; exact Gives.mk) (by simp; exact Gives.mk) (by simp; exact Gives.mk) rfl (by simp; exact Gives.mk) (by simp; exact Gives.mk) rfl (by simp) (by simp) (by simp; exact Gives.mk) (by simp; exact Gives.mk) ?_ | fail))
      all_goals try contradiction
      exact ⟨(i + 1, fr, m), ⟨by simp; omega, h2, h3, by rw [h4, hno (by omega) (by omega) rfl]⟩, by simp; omega, run_back [0, 4, 5, 6, 7] [14, 5, 40000] (by simp; exact Gives.mk) (by simp; exact Gives.mk) (by simp)⟩
    · obtain ⟨h5, h6, h7, h8, h9, h10⟩ := hle t rfl
      have hr := hso t (by omega) (by omega) rfl
      have htl := txt_len fr i
      have hx := text_ok fr i m (by omega) (by omega) (by omega)
      simp only [tokD, Option.map_some, Option.getD_some] at htk
      have hraw := isRaw_ok l t.to t (fun h => ⟨h8 h, h6⟩) hm
      have hend := rawEnd_ok l t.name t.to h6 hm (by omega)
      have hre := rawE_le l t.to t.name h6
      have hx2 := text_ok t.to (rawE l t.to t.name) (m ++ txt fr i ++ [t]) (by simp; omega) (by omega) (by omega)
      have htl2 := txt_len t.to (rawE l t.to t.name)
      have hk : attD t = attSl t.atts ∨ attD t = nilSl := by unfold attD; split <;> simp
      rcases hk with ha | ha
      · have ha' : (if t.kind = 2 then attSl t.atts else nilSl) = _ := ha
        simp only [encT, ha] at htk hraw
        simp only [outO, List.map_append, List.map_cons, List.map_nil, List.length_append, List.length_cons, List.length_nil, encT, ha] at hx2
        repeat' (first | (first | refine ewp_seq ?_ | refine run_region hc (by simp; exact Ends.go) (by first | exact True.intro | omega | (simp; done) | (simp; omega) | (simp at *; omega)) ?_ | refine run_draw hc (by kernel_rfl) (by kernel_rfl) (by simp; exact Ends.go) (by first | exact True.intro | omega | (simp; done) | (simp; omega) | (simp at *; omega)) ?_ | refine ewp_scope ?_ | refine scopeQ_normal ?_ | refine scopeQ_ret ?_ | refine scopeQ_exit ?_ | refine ewp_skip ?_ | refine ewp_block ?_ | refine ewp_exit ?_ | refine ewp_label ?_ | refine thenQ_normal ?_ | refine thenQ_ret ?_ | refine thenQ_exit ?_ | refine blockQ_normal ?_ | refine blockQ_ret ?_ | refine blockQ_here ?_ | refine blockQ_there (by decide) ?_ | refine ewp_ret ?_ | refine opsW_nil ?_ | refine quietW_nil ?_ | (refine run_cond (by simp; exact Gives.mk) (fun hb => ?_) (fun hb => ?_) <;> (try simp at hb)) | fail) | (first | refine run_callW hc (by simp; exact Gives.mk) (by simp; exact Gives.mk) (by simp; exact Gives.mk) (by simp; exact Gives.mk) (by simp; exact Gives.mk) (fun _ => by first | exact hraw | exact hend) (by simp) (by simp) ?_ | refine run_callQ hc (by simp; exact Gives.mk) (by simp; exact Gives.mk) (by simp; exact Gives.mk) (by simp; exact Gives.mk) (by simp; exact Gives.mk) (fun _ => by first | exact hraw | exact hend) (by simp) (by simp) ?_ | refine run_ops hc (by simp; first | exact Ends.go | exact Ends.halt) (by decide) (by first | exact True.intro | omega | (simp; done) | (simp; omega) | (simp at *; omega)) ?_ | refine run_quiet hc (by simp; first | exact Ends.go | exact Ends.halt) (by decide) (by first | exact True.intro | omega | (simp; done) | (simp; omega) | (simp at *; omega)) ?_ | refine run_regionW hc (by simp; exact Ends.halt) (by first | exact True.intro | omega | (simp; done) | (simp; omega) | (simp at *; omega)) ?_ | refine run_drawN hc (by kernel_rfl) (by decide) (by kernel_rfl) (by simp; exact Ends.halt) (by first | exact True.intro | omega | (simp; done) | (simp; omega) | (simp at *; omega)) ?_ | fail) | (first | refine run_callM ([(100000, 14)]) (htk) hc (by simp; exact Gives.mk) (by simp; exact Gives.mk) (by simp; exact Gives.mk) (by simp; exact Gives.mk) (by simp; exact Gives.mk) rfl (by simp; exact Gives.mk) (by simp; exact Gives.mk) rfl (by simp) (by simp) (by simp; exact Gives.mk) (by simp; exact Gives.mk) ?_ | fail) | (first | refine run_callM ([(100000, 5), (50001, 40000)]) (hx) hc (by simp; exact Gives.mk) (by simp; exact Gives.mk) (by simp; exact Gives.mk) (by simp; exact Gives.mk) (by simp; exact Gives.mk) rfl (by simp; exact Gives.mk) (by simp; exact Gives.mk) rfl (by simp) (by simp) (by simp; exact Gives.mk) (by simp; exact Gives.mk) ?_ | fail) | (first | refine run_callM ([(100000, 5), (50001, 40000)]) (hx2) hc (by simp; exact Gives.mk) (by simp; exact Gives.mk) (by simp; exact Gives.mk) (by simp; exact Gives.mk) (by simp; exact Gives.mk) rfl (by simp; exact Gives.mk) (by simp; exact Gives.mk) rfl (by simp) (by simp) (by simp; exact Gives.mk) (by simp; exact Gives.mk) ?_ | fail))
        · refine ⟨(rawE l t.to t.name, rawE l t.to t.name, m ++ txt fr i ++ t :: txt t.to (rawE l t.to t.name)), ⟨by simp; omega, by simp; omega, by simp; omega, by rw [h4, hr, if_pos hb]⟩, by simp; omega, run_back [0, 4, 5, 6, 7] [14, 5, 40000] (by simp; exact Gives.mk) (by simp; exact Gives.mk) (by first | (simp [encT, ha', Nat.add_assoc]; done) | (simp [encT, ha', Nat.add_assoc]; omega))⟩
        · refine ⟨(t.to, t.to, m ++ txt fr i ++ [t]), ⟨by simp; omega, by simp; omega, by simp; omega, by rw [h4, hr, if_neg (by simpa using hb)]⟩, by simp; omega, run_back [0, 4, 5, 6, 7] [14, 5, 40000] (by simp; exact Gives.mk) (by simp; exact Gives.mk) (by first | (simp [encT, ha', Nat.add_assoc]; done) | (simp [encT, ha', Nat.add_assoc]; omega))⟩
      · have ha' : (if t.kind = 2 then attSl t.atts else nilSl) = _ := ha
        simp only [encT, ha] at htk hraw
        simp only [outO, List.map_append, List.map_cons, List.map_nil, List.length_append, List.length_cons, List.length_nil, encT, ha] at hx2
        repeat' (first | (first | refine ewp_seq ?_ | refine run_region hc (by simp; exact Ends.go) (by first | exact True.intro | omega | (simp; done) | (simp; omega) | (simp at *; omega)) ?_ | refine run_draw hc (by kernel_rfl) (by kernel_rfl) (by simp; exact Ends.go) (by first | exact True.intro | omega | (simp; done) | (simp; omega) | (simp at *; omega)) ?_ | refine ewp_scope ?_ | refine scopeQ_normal ?_ | refine scopeQ_ret ?_ | refine scopeQ_exit ?_ | refine ewp_skip ?_ | refine ewp_block ?_ | refine ewp_exit ?_ | refine ewp_label ?_ | refine thenQ_normal ?_ | refine thenQ_ret ?_ | refine thenQ_exit ?_ | refine blockQ_normal ?_ | refine blockQ_ret ?_ | refine blockQ_here ?_ | refine blockQ_there (by decide) ?_ | refine ewp_ret ?_ | refine opsW_nil ?_ | refine quietW_nil ?_ | (refine run_cond (by simp; exact Gives.mk) (fun hb => ?_) (fun hb => ?_) <;> (try simp at hb)) | fail) | (first | refine run_callW hc (by simp; exact Gives.mk) (by simp; exact Gives.mk) (by simp; exact Gives.mk) (by simp; exact Gives.mk) (by simp; exact Gives.mk) (fun _ => by first | exact hraw | exact hend) (by simp) (by simp) ?_ | refine run_callQ hc (by simp; exact Gives.mk) (by simp; exact Gives.mk) (by simp; exact Gives.mk) (by simp; exact Gives.mk) (by simp; exact Gives.mk) (fun _ => by first | exact hraw | exact hend) (by simp) (by simp) ?_ | refine run_ops hc (by simp; first | exact Ends.go | exact Ends.halt) (by decide) (by first | exact True.intro | omega | (simp; done) | (simp; omega) | (simp at *; omega)) ?_ | refine run_quiet hc (by simp; first | exact Ends.go | exact Ends.halt) (by decide) (by first | exact True.intro | omega | (simp; done) | (simp; omega) | (simp at *; omega)) ?_ | refine run_regionW hc (by simp; exact Ends.halt) (by first | exact True.intro | omega | (simp; done) | (simp; omega) | (simp at *; omega)) ?_ | refine run_drawN hc (by kernel_rfl) (by decide) (by kernel_rfl) (by simp; exact Ends.halt) (by first | exact True.intro | omega | (simp; done) | (simp; omega) | (simp at *; omega)) ?_ | fail) | (first | refine run_callM ([(100000, 14)]) (htk) hc (by simp; exact Gives.mk) (by simp; exact Gives.mk) (by simp; exact Gives.mk) (by simp; exact Gives.mk) (by simp; exact Gives.mk) rfl (by simp; exact Gives.mk) (by simp; exact Gives.mk) rfl (by simp) (by simp) (by simp; exact Gives.mk) (by simp; exact Gives.mk) ?_ | fail) | (first | refine run_callM ([(100000, 5), (50001, 40000)]) (hx) hc (by simp; exact Gives.mk) (by simp; exact Gives.mk) (by simp; exact Gives.mk) (by simp; exact Gives.mk) (by simp; exact Gives.mk) rfl (by simp; exact Gives.mk) (by simp; exact Gives.mk) rfl (by simp) (by simp) (by simp; exact Gives.mk) (by simp; exact Gives.mk) ?_ | fail) | (first | refine run_callM ([(100000, 5), (50001, 40000)]) (hx2) hc (by simp; exact Gives.mk) (by simp; exact Gives.mk) (by simp; exact Gives.mk) (by simp; exact Gives.mk) (by simp; exact Gives.mk) rfl (by simp; exact Gives.mk) (by simp; exact Gives.mk) rfl (by simp) (by simp) (by simp; exact Gives.mk) (by simp; exact Gives.mk) ?_ | fail))
        · refine ⟨(rawE l t.to t.name, rawE l t.to t.name, m ++ txt fr i ++ t :: txt t.to (rawE l t.to t.name)), ⟨by simp; omega, by simp; omega, by simp; omega, by rw [h4, hr, if_pos hb]⟩, by simp; omega, run_back [0, 4, 5, 6, 7] [14, 5, 40000] (by simp; exact Gives.mk) (by simp; exact Gives.mk) (by first | (simp [encT, ha', Nat.add_assoc]; done) | (simp [encT, ha', Nat.add_assoc]; omega))⟩
        · refine ⟨(t.to, t.to, m ++ txt fr i ++ [t]), ⟨by simp; omega, by simp; omega, by simp; omega, by rw [h4, hr, if_neg (by simpa using hb)]⟩, by simp; omega, run_back [0, 4, 5, 6, 7] [14, 5, 40000] (by simp; exact Gives.mk) (by simp; exact Gives.mk) (by first | (simp [encT, ha', Nat.add_assoc]; done) | (simp [encT, ha', Nat.add_assoc]; omega))⟩
  · rw [h4, run_end (by omega)]
    have hx := text_ok fr l.length m (by omega) (by omega) (by omega)
    repeat' (first | (first | refine ewp_seq ?_ | refine run_region hc (by simp; exact Ends.go) (by first | exact True.intro | omega | (simp; done) | (simp; omega) | (simp at *; omega)) ?_ | refine run_draw hc (by kernel_rfl) (by kernel_rfl) (by simp; exact Ends.go) (by first | exact True.intro | omega | (simp; done) | (simp; omega) | (simp at *; omega)) ?_ | refine ewp_scope ?_ | refine scopeQ_normal ?_ | refine scopeQ_ret ?_ | refine scopeQ_exit ?_ | refine ewp_skip ?_ | refine ewp_block ?_ | refine ewp_exit ?_ | refine ewp_label ?_ | refine thenQ_normal ?_ | refine thenQ_ret ?_ | refine thenQ_exit ?_ | refine blockQ_normal ?_ | refine blockQ_ret ?_ | refine blockQ_here ?_ | refine blockQ_there (by decide) ?_ | refine ewp_ret ?_ | refine opsW_nil ?_ | refine quietW_nil ?_ | (refine run_cond (by simp; exact Gives.mk) (fun hb => ?_) (fun hb => ?_) <;> (try simp at hb)) | fail) | (first | refine run_callW hc (by simp; exact Gives.mk) (by simp; exact Gives.mk) (by simp; exact Gives.mk) (by simp; exact Gives.mk) (by simp; exact Gives.mk) (fun _ => by first | exact trivial) (by simp) (by simp) ?_ | refine run_callQ hc (by simp; exact Gives.mk) (by simp; exact Gives.mk) (by simp; exact Gives.mk) (by simp; exact Gives.mk) (by simp; exact Gives.mk) (fun _ => by first | exact trivial) (by simp) (by simp) ?_ | refine run_ops hc (by simp; first | exact Ends.go | exact Ends.halt) (by decide) (by first | exact True.intro | omega | (simp; done) | (simp; omega) | (simp at *; omega)) ?_ | refine run_quiet hc (by simp; first | exact Ends.go | exact Ends.halt) (by decide) (by first | exact True.intro | omega | (simp; done) | (simp; omega) | (simp at *; omega)) ?_ | refine run_regionW hc (by simp; exact Ends.halt) (by first | exact True.intro | omega | (simp; done) | (simp; omega) | (simp at *; omega)) ?_ | refine run_drawN hc (by kernel_rfl) (by decide) (by kernel_rfl) (by simp; exact Ends.halt) (by first | exact True.intro | omega | (simp; done) | (simp; omega) | (simp at *; omega)) ?_ | fail) | (first | refine run_callM ([(100000, 5), (50001, 40000)]) (hx) hc (by simp; exact Gives.mk) (by simp; exact Gives.mk) (by simp; exact Gives.mk) (by simp; exact Gives.mk) (by simp; exact Gives.mk) rfl (by simp; exact Gives.mk) (by simp; exact Gives.mk) rfl (by simp) (by simp) (by simp; exact Gives.mk) (by simp; exact Gives.mk) ?_ | fail))
    (refine run_leave hc (by simp; exact Gives.mk) ?_)
    have e : decide ((m.length : Int) + ((txt fr l.length).length : Int) ≤ 20000) = decide ((m ++ txt fr l.length).length ≤ 20000) := by
      rw [decide_eq_decide, List.length_append]; omega
    simp only [← List.map_append, List.getElem?_map, getD_encT, e]
    simp
end Go.Proofs.Ytgebkjngnfdeiaa
