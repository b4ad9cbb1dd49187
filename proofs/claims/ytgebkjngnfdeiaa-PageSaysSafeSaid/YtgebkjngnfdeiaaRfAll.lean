/-
  THE REFERENCE OF CHAPTER 3: the page divided; PageTokensMatchSpec. (WITH run_drawN.)
-/
import Derived.Test.YtgebkjngnfdeiaaRfOpn
import Derived.Test.YtgebkjngnfdeiaaPgLie
set_option linter.unusedSimpArgs false
set_option linter.unusedVariables false
namespace Go.Proofs.Ytgebkjngnfdeiaa
open Go.Lw Go.RowKit Go.ChangeShapes Go.WideShapes Go.ChangeAt
set_option maxRecDepth 100000
set_option maxHeartbeats 1000000

theorem rRaw_ok (l : Bs) (t : Tk) (ht : t.kind = 2 → 2 ≤ t.to ∧ t.to ≤ l.length) (hm : l.length ≤ 200000) : FnOk Try.prog 62 [str l, .agg (encT t)] (tru (rawB l t)) := by
  refine fnOk Try.func62 rfl (by kernel_rfl) Try.ntmps62 _ rfl (by simp) fun C hc => ?_
  obtain ⟨k, f, e, n, m⟩ := t
  by_cases hk : k = 2
  · subst hk
    obtain ⟨h1, h2⟩ := ht rfl
    simp only at h1 h2
    simp only [encT, attD, if_true]
    repeat' (first | (first | refine ewp_seq ?_ | refine run_region hc (by simp; exact Ends.go) (by first | exact True.intro | omega | (simp; done) | (simp; omega) | (simp at *; omega)) ?_ | refine run_draw hc (by kernel_rfl) (by kernel_rfl) (by simp; exact Ends.go) (by first | exact True.intro | omega | (simp; done) | (simp; omega) | (simp at *; omega)) ?_ | refine ewp_scope ?_ | refine scopeQ_normal ?_ | refine scopeQ_ret ?_ | refine scopeQ_exit ?_ | refine ewp_skip ?_ | refine ewp_block ?_ | refine ewp_exit ?_ | refine ewp_label ?_ | refine thenQ_normal ?_ | refine thenQ_ret ?_ | refine thenQ_exit ?_ | refine blockQ_normal ?_ | refine blockQ_ret ?_ | refine blockQ_here ?_ | refine blockQ_there (by decide) ?_ | refine ewp_ret ?_ | refine opsW_nil ?_ | refine quietW_nil ?_ | (refine run_cond (by simp; exact Gives.mk) (fun hb => ?_) (fun hb => ?_) <;> (try simp at hb)) | fail) | (first | refine run_callW hc (by simp; exact Gives.mk) (by simp; exact Gives.mk) (by simp; exact Gives.mk) (by simp; exact Gives.mk) (by simp; exact Gives.mk) (fun _ => by first | exact trivial) (by simp) (by simp) ?_ | refine run_callQ hc (by simp; exact Gives.mk) (by simp; exact Gives.mk) (by simp; exact Gives.mk) (by simp; exact Gives.mk) (by simp; exact Gives.mk) (fun _ => by first | exact trivial) (by simp) (by simp) ?_ | refine run_ops hc (by simp; first | exact Ends.go | exact Ends.halt) (by decide) (by first | exact True.intro | omega | (simp; done) | (simp; omega) | (simp at *; omega)) ?_ | refine run_quiet hc (by simp; first | exact Ends.go | exact Ends.halt) (by decide) (by first | exact True.intro | omega | (simp; done) | (simp; omega) | (simp at *; omega)) ?_ | refine run_regionW hc (by simp; exact Ends.halt) (by first | exact True.intro | omega | (simp; done) | (simp; omega) | (simp at *; omega)) ?_ | refine run_drawN hc (by kernel_rfl) (by decide) (by kernel_rfl) (by simp; exact Ends.halt) (by first | exact True.intro | omega | (simp; done) | (simp; omega) | (simp at *; omega)) ?_ | fail))
    (refine run_leave hc (by simp; exact Gives.mk) ?_)
    refine res_bool ?_
    rw [Bool.eq_iff_iff]; simp [rawB, rawName]; omega
  · simp only [encT, attD, hk, if_false]
    repeat' (first | (first | refine ewp_seq ?_ | refine run_region hc (by simp; exact Ends.go) (by first | exact True.intro | omega | (simp; done) | (simp; omega) | (simp at *; omega)) ?_ | refine run_draw hc (by kernel_rfl) (by kernel_rfl) (by simp; exact Ends.go) (by first | exact True.intro | omega | (simp; done) | (simp; omega) | (simp at *; omega)) ?_ | refine ewp_scope ?_ | refine scopeQ_normal ?_ | refine scopeQ_ret ?_ | refine scopeQ_exit ?_ | refine ewp_skip ?_ | refine ewp_block ?_ | refine ewp_exit ?_ | refine ewp_label ?_ | refine thenQ_normal ?_ | refine thenQ_ret ?_ | refine thenQ_exit ?_ | refine blockQ_normal ?_ | refine blockQ_ret ?_ | refine blockQ_here ?_ | refine blockQ_there (by decide) ?_ | refine ewp_ret ?_ | refine opsW_nil ?_ | refine quietW_nil ?_ | (refine run_cond (by simp; exact Gives.mk) (fun hb => ?_) (fun hb => ?_) <;> (try simp at hb)) | fail) | (first | refine run_callW hc (by simp; exact Gives.mk) (by simp; exact Gives.mk) (by simp; exact Gives.mk) (by simp; exact Gives.mk) (by simp; exact Gives.mk) (fun _ => by first | exact trivial) (by simp) (by simp) ?_ | refine run_callQ hc (by simp; exact Gives.mk) (by simp; exact Gives.mk) (by simp; exact Gives.mk) (by simp; exact Gives.mk) (by simp; exact Gives.mk) (fun _ => by first | exact trivial) (by simp) (by simp) ?_ | refine run_ops hc (by simp; first | exact Ends.go | exact Ends.halt) (by decide) (by first | exact True.intro | omega | (simp; done) | (simp; omega) | (simp at *; omega)) ?_ | refine run_quiet hc (by simp; first | exact Ends.go | exact Ends.halt) (by decide) (by first | exact True.intro | omega | (simp; done) | (simp; omega) | (simp at *; omega)) ?_ | refine run_regionW hc (by simp; exact Ends.halt) (by first | exact True.intro | omega | (simp; done) | (simp; omega) | (simp at *; omega)) ?_ | refine run_drawN hc (by kernel_rfl) (by decide) (by kernel_rfl) (by simp; exact Ends.halt) (by first | exact True.intro | omega | (simp; done) | (simp; omega) | (simp at *; omega)) ?_ | fail))
    (refine run_leave hc (by simp; exact Gives.mk) ?_)
    refine res_bool ?_
    rw [Bool.eq_iff_iff]; simp [rawB, rawName, hk]; omega
theorem rRawEnd_ok (l n : Bs) (i : Nat) (hi : i ≤ l.length) (hm : l.length ≤ 200000) (hn : n.length ≤ 200000) : FnOk Try.prog 63 [str l, int i, str n] (int (rawE l i n)) := by
  refine fnOk Try.func63 rfl (by kernel_rfl) Try.ntmps63 _ rfl (by simp) fun C hc => ?_
  repeat' (first | refine ewp_seq ?_ | refine run_region hc (by simp; exact Ends.go) (by first | exact True.intro | omega | (simp; done) | (simp; omega) | (simp at *; omega)) ?_ | refine run_draw hc (by kernel_rfl) (by kernel_rfl) (by simp; exact Ends.go) (by first | exact True.intro | omega | (simp; done) | (simp; omega) | (simp at *; omega)) ?_ | refine ewp_scope ?_ | refine scopeQ_normal ?_ | refine scopeQ_ret ?_ | refine scopeQ_exit ?_ | refine ewp_skip ?_ | refine ewp_block ?_ | refine ewp_exit ?_ | refine ewp_label ?_ | refine thenQ_normal ?_ | refine thenQ_ret ?_ | refine thenQ_exit ?_ | refine blockQ_normal ?_ | refine blockQ_ret ?_ | refine blockQ_here ?_ | refine blockQ_there (by decide) ?_ | refine ewp_ret ?_ | refine opsW_nil ?_ | refine quietW_nil ?_ | (refine run_cond (by simp; exact Gives.mk) (fun hb => ?_) (fun hb => ?_) <;> (try simp at hb)) | fail)
  refine ewp_loop (fun j : Nat => ⟨[(0, .d (str l)), (1, .d (int j)), (2, .d (str n))], []⟩) (fun j => i ≤ j ∧ j ≤ l.length ∧ rawE l i n = rawE l j n) (fun j => l.length - j) i (by simp; omega) (run_keep [0, 1, 2] [] (by simp; exact Gives.mk) (by simp; exact Gives.mk)) ?_
  rintro j ⟨h1, h2, h3⟩
  have h4 : rawE l j n = if j < l.length then (if rawAt l j n = true then j else rawE l (j + 1) n) else l.length := by rw [rawE]
  have hp := fun h => pre_len (p := [60, 47]) (l := l) (i := j) h2 h
  simp only [List.length_cons, List.length_nil] at hp
  have hst := stands_ok l 60 [47] j (by omega) hm
  have hsm := fun h : j + 2 + n.length ≤ l.length => rSmall_ok ((l.take (j + 2 + n.length)).drop (j + 2)) (by simp; omega)
  repeat' (first | (first | refine ewp_seq ?_ | refine run_region hc (by simp; exact Ends.go) (by first | exact True.intro | omega | (simp; done) | (simp; omega) | (simp at *; omega)) ?_ | refine run_draw hc (by kernel_rfl) (by kernel_rfl) (by simp; exact Ends.go) (by first | exact True.intro | omega | (simp; done) | (simp; omega) | (simp at *; omega)) ?_ | refine ewp_scope ?_ | refine scopeQ_normal ?_ | refine scopeQ_ret ?_ | refine scopeQ_exit ?_ | refine ewp_skip ?_ | refine ewp_block ?_ | refine ewp_exit ?_ | refine ewp_label ?_ | refine thenQ_normal ?_ | refine thenQ_ret ?_ | refine thenQ_exit ?_ | refine blockQ_normal ?_ | refine blockQ_ret ?_ | refine blockQ_here ?_ | refine blockQ_there (by decide) ?_ | refine ewp_ret ?_ | refine opsW_nil ?_ | refine quietW_nil ?_ | (refine run_cond (by simp; exact Gives.mk) (fun hb => ?_) (fun hb => ?_) <;> (try simp at hb)) | fail) | (first | refine run_callW hc (by simp; exact Gives.mk) (by simp; exact Gives.mk) (by simp; exact Gives.mk) (by simp; exact Gives.mk) (by simp; exact Gives.mk) (fun _ => by first | exact hst | exact rBlank_ok _ | exact rSmall_ok _ (by simp; omega)) (by simp) (by simp) ?_ | refine run_callQ hc (by simp; exact Gives.mk) (by simp; exact Gives.mk) (by simp; exact Gives.mk) (by simp; exact Gives.mk) (by simp; exact Gives.mk) (fun _ => by first | exact hst | exact rBlank_ok _ | exact rSmall_ok _ (by simp; omega)) (by simp) (by simp) ?_ | refine run_ops hc (by simp; first | exact Ends.go | exact Ends.halt) (by decide) (by first | exact True.intro | omega | (simp; done) | (simp; omega) | (simp at *; omega)) ?_ | refine run_quiet hc (by simp; first | exact Ends.go | exact Ends.halt) (by decide) (by first | exact True.intro | omega | (simp; done) | (simp; omega) | (simp at *; omega)) ?_ | refine run_regionW hc (by simp; exact Ends.halt) (by first | exact True.intro | omega | (simp; done) | (simp; omega) | (simp at *; omega)) ?_ | refine run_drawN hc (by kernel_rfl) (by decide) (by kernel_rfl) (by simp; exact Ends.halt) (by first | exact True.intro | omega | (simp; done) | (simp; omega) | (simp at *; omega)) ?_ | fail))
  · have eT : ((j : Int) + 2 + (n.length : Int)).toNat = j + 2 + n.length := by omega
    rw [eT] at hb
    have hr : rawAt l j n = true := by
      simp only [rawAt, Bool.and_eq_true, Bool.or_eq_true, decide_eq_true_eq, List.isPrefixOf_iff_prefix]
      exact ⟨⟨⟨hb.1.1.1, by omega⟩, hb.1.2⟩, hb.2.symm.imp (fun h => by omega) id⟩
    rw [h3, h4, if_pos (by assumption), if_pos hr]
    (refine run_leave hc (by simp; exact Gives.mk) ?_)
    simp
  · have eT : ((j : Int) + 2 + (n.length : Int)).toNat = j + 2 + n.length := by omega
    rw [eT] at hb
    have hr : ¬ rawAt l j n = true := by
      intro hr
      simp only [rawAt, Bool.and_eq_true, Bool.or_eq_true, decide_eq_true_eq, List.isPrefixOf_iff_prefix] at hr
      have := hb hr.1.1.1 (by omega) hr.1.2
      rcases hr.2 with h | h
      · omega
      · rw [this.1] at h; cases h
    refine ⟨j + 1, ⟨by omega, by omega, ?_⟩, by omega, run_back [0, 1, 2] [] (by simp; exact Gives.mk) (by simp; exact Gives.mk) (by simp)⟩
    rw [h3, h4, if_pos (by assumption), if_neg hr]
  · rw [h3, h4, if_neg (by omega)]
    (refine run_leave hc (by simp; exact Gives.mk) ?_)
    simp; omega
theorem rTextToken_ok (a b : Nat) : FnOk Try.prog 61 [int a, int b] (.agg [int 1, int a, int b, str [], nilSl]) := by
  refine fnOk Try.func61 rfl (by kernel_rfl) Try.ntmps61 _ rfl (by simp) fun C hc => ?_
  repeat' (first | refine ewp_seq ?_ | refine run_region hc (by simp; exact Ends.go) (by first | exact True.intro | omega | (simp; done) | (simp; omega) | (simp at *; omega)) ?_ | refine run_draw hc (by kernel_rfl) (by kernel_rfl) (by simp; exact Ends.go) (by first | exact True.intro | omega | (simp; done) | (simp; omega) | (simp at *; omega)) ?_ | refine ewp_scope ?_ | refine scopeQ_normal ?_ | refine scopeQ_ret ?_ | refine scopeQ_exit ?_ | refine ewp_skip ?_ | refine ewp_block ?_ | refine ewp_exit ?_ | refine ewp_label ?_ | refine thenQ_normal ?_ | refine thenQ_ret ?_ | refine thenQ_exit ?_ | refine blockQ_normal ?_ | refine blockQ_ret ?_ | refine blockQ_here ?_ | refine blockQ_there (by decide) ?_ | refine ewp_ret ?_ | refine opsW_nil ?_ | refine quietW_nil ?_ | (refine run_cond (by simp; exact Gives.mk) (fun hb => ?_) (fun hb => ?_) <;> (try simp at hb)) | fail)
  (refine run_leave hc (by simp; exact Gives.mk) ?_)
  simp
theorem parts_none {l : Bs} {fr i : Nat} (h : i < l.length) (ht : tok l i = none) : parts l fr i = parts l fr (i + 1) := by
  rw [parts, dif_pos h]
  split
  · rfl
  · rename_i t h'; rw [ht] at h'; cases h'
theorem parts_some {l : Bs} {fr i : Nat} {t : Tk} (h : i < l.length) (ht : tok l i = some t) : parts l fr i = if rawB l t = true then txt fr i ++ t :: (txt t.to (rawE l t.to t.name) ++ parts l (rawE l t.to t.name) (rawE l t.to t.name)) else txt fr i ++ t :: parts l t.to t.to := by
  rw [parts, dif_pos h]
  split
  · rename_i h'; rw [ht] at h'; cases h'
  · rename_i t' h'
    rw [ht] at h'
    cases h'
    rfl
theorem parts_end {l : Bs} {fr i : Nat} (h : ¬ i < l.length) : parts l fr i = txt fr l.length := by rw [parts, dif_neg h]
/-- Where it is not too much, it is the whole. -/
theorem run_parts (l : Bs) : ∀ (n fr i : Nat) (m : List Tk), l.length - i ≤ n → run l fr i m = m ++ parts l fr i ∨ (20000 < (run l fr i m).length ∧ 20000 < (m ++ parts l fr i).length) := by
  intro n
  induction n with
  | zero =>
    intro fr i m h
    rw [run_end (by omega), parts_end (by omega)]
    exact .inl rfl
  | succ n ih =>
    intro fr i m h
    by_cases hi : i < l.length
    rotate_left
    · rw [run_end (by omega), parts_end (by omega)]
      exact .inl rfl
    by_cases hm : m.length ≤ 20000
    rotate_left
    · rw [run_end (by omega)]
      exact .inr ⟨by simp; omega, by simp; omega⟩
    cases ht : tok l i with
    | none =>
      rw [run_none hi hm ht, parts_none hi ht]
      exact ih _ _ _ (by omega)
    | some t =>
      have hle := tok_le (by omega) ht
      have hre := rawE_le l t.to t.name hle.2.1
      rw [run_some hi hm ht, parts_some hi ht]
      split
      · have := ih (rawE l t.to t.name) (rawE l t.to t.name) (m ++ txt fr i ++ t :: txt t.to (rawE l t.to t.name)) (by omega)
        simpa [List.append_assoc] using this
      · have := ih t.to t.to (m ++ txt fr i ++ [t]) (by omega)
        simpa [List.append_assoc] using this
@[simp] theorem take_more {α β : Type} (f : α → β) (m : List α) (x : List β) (n : Nat) : List.take (m.length + n) (List.map f m ++ x) = List.map f m ++ List.take n x := by
  rw [List.take_append, List.take_of_length_le (by simp)]; simp
theorem txt_enc (a b : Nat) (h : a < b) : txt a b = [⟨1, a, b, [], []⟩] := if_pos h
theorem txt_no (a b : Nat) (h : ¬ a < b) : txt a b = [] := if_neg h
theorem row_at (m : List Tk) (k : Nat) : (m.map encT)[k]?.getD dfT = encT (m[k]?.getD .none) := by simp
theorem rTokens_ok (l : Bs) (hm : l.length ≤ 200000) : FnOk Try.prog 42 [str l] (tokSl (parts l 0 0)) := by
  refine fnOk Try.func42 rfl (by kernel_rfl) Try.ntmps42 _ rfl (by simp) fun C hc => ?_
  repeat' (first | refine ewp_seq ?_ | refine run_region hc (by simp; exact Ends.go) (by first | exact True.intro | omega | (simp; done) | (simp; omega) | (simp at *; omega)) ?_ | refine run_draw hc (by kernel_rfl) (by kernel_rfl) (by simp; exact Ends.go) (by first | exact True.intro | omega | (simp; done) | (simp; omega) | (simp at *; omega)) ?_ | refine ewp_scope ?_ | refine scopeQ_normal ?_ | refine scopeQ_ret ?_ | refine scopeQ_exit ?_ | refine ewp_skip ?_ | refine ewp_block ?_ | refine ewp_exit ?_ | refine ewp_label ?_ | refine thenQ_normal ?_ | refine thenQ_ret ?_ | refine thenQ_exit ?_ | refine blockQ_normal ?_ | refine blockQ_ret ?_ | refine blockQ_here ?_ | refine blockQ_there (by decide) ?_ | refine ewp_ret ?_ | refine opsW_nil ?_ | refine quietW_nil ?_ | (refine run_cond (by simp; exact Gives.mk) (fun hb => ?_) (fun hb => ?_) <;> (try simp at hb)) | fail)
  refine ewp_loop (fun x : Nat × Nat × List Tk => ⟨[(0, .d (str l)), (3, .os 40000 x.2.2.length), (4, .d (int x.2.1)), (5, .d (int x.1))], [(40000, .own 36 5 (true, dfT) (x.2.2.map encT))]⟩)
    (fun x => x.1 ≤ l.length ∧ x.2.1 ≤ x.1 ∧ x.2.2.length ≤ 2 * x.2.1 ∧ parts l 0 0 = x.2.2 ++ parts l x.2.1 x.1) (fun x => l.length - x.1) (0, 0, []) (by simp) (run_keepB [(3, none, 40000, 36, dfT)] [0, 3, 4, 5] [40000] (by simp; exact Gives.mk) (by simp; exact Gives.mk) (by simp; exact Gives.mk)) ?_
  rintro ⟨i, fr, m⟩ ⟨h1, h2, h3, h4⟩
  simp only at h1 h2 h3 h4 ⊢
  have hmk := rMarked_ok l i h1 hm
  have hle := fun t => tok_le (l := l) (i := i) (t := t) h1
  have hno := fun h2 h => parts_none (l := l) (fr := fr) (i := i) h2 h
  have hso := fun t h2 h => parts_some (l := l) (fr := fr) (i := i) (t := t) h2 h
  have hsp := mrk_spec l i
  generalize tok l i = t at hle hno hso hsp
  generalize mrk l i = x at hmk hsp
  obtain ⟨u, o⟩ := x
  obtain ⟨hs1, hs2⟩ := hsp
  simp only at hs1 hs2 hmk
  obtain _ | t := t
  · simp only [Option.isSome_none] at hs1
    subst hs1
    rcases attD_cases u with ha | ha
    all_goals
      simp only [encT, ha] at hmk
      repeat' (first | (first | refine ewp_seq ?_ | refine run_region hc (by simp; exact Ends.go) (by first | exact True.intro | omega | (simp; done) | (simp; omega) | (simp at *; omega)) ?_ | refine run_draw hc (by kernel_rfl) (by kernel_rfl) (by simp; exact Ends.go) (by first | exact True.intro | omega | (simp; done) | (simp; omega) | (simp at *; omega)) ?_ | refine ewp_scope ?_ | refine scopeQ_normal ?_ | refine scopeQ_ret ?_ | refine scopeQ_exit ?_ | refine ewp_skip ?_ | refine ewp_block ?_ | refine ewp_exit ?_ | refine ewp_label ?_ | refine thenQ_normal ?_ | refine thenQ_ret ?_ | refine thenQ_exit ?_ | refine blockQ_normal ?_ | refine blockQ_ret ?_ | refine blockQ_here ?_ | refine blockQ_there (by decide) ?_ | refine ewp_ret ?_ | refine opsW_nil ?_ | refine quietW_nil ?_ | (refine run_cond (by simp; exact Gives.mk) (fun hb => ?_) (fun hb => ?_) <;> (try simp at hb)) | fail) | (first | refine run_callW hc (by simp; exact Gives.mk) (by simp; exact Gives.mk) (by simp; exact Gives.mk) (by simp; exact Gives.mk) (by simp; exact Gives.mk) (fun _ => by first | exact hmk | exact rTextToken_ok _ _) (by simp) (by simp) ?_ | refine run_callQ hc (by simp; exact Gives.mk) (by simp; exact Gives.mk) (by simp; exact Gives.mk) (by simp; exact Gives.mk) (by simp; exact Gives.mk) (fun _ => by first | exact hmk | exact rTextToken_ok _ _) (by simp) (by simp) ?_ | refine run_ops hc (by simp; first | exact Ends.go | exact Ends.halt) (by decide) (by first | exact True.intro | omega | (simp; done) | (simp; omega) | (simp at *; omega)) ?_ | refine run_quiet hc (by simp; first | exact Ends.go | exact Ends.halt) (by decide) (by first | exact True.intro | omega | (simp; done) | (simp; omega) | (simp at *; omega)) ?_ | refine run_regionW hc (by simp; exact Ends.halt) (by first | exact True.intro | omega | (simp; done) | (simp; omega) | (simp at *; omega)) ?_ | refine run_drawN hc (by kernel_rfl) (by decide) (by kernel_rfl) (by simp; exact Ends.halt) (by first | exact True.intro | omega | (simp; done) | (simp; omega) | (simp at *; omega)) ?_ | fail))
      all_goals try contradiction
      · exact ⟨(i + 1, fr, m), ⟨by simp; omega, by simp; omega, h3, by rw [h4, hno (by omega) rfl]⟩, by simp; omega, run_back [0, 3, 4, 5] [40000] (by simp; exact Gives.mk) (by simp; exact Gives.mk) (by simp)⟩
      · have e : parts l 0 0 = m ++ txt fr l.length := by rw [h4, parts_end (by omega)]
        have hil : i = l.length := by omega
        rw [e, txt_enc _ _ (by omega), ← hil]
        have e2 : List.map encT m ++ [[int 1, int fr, int i, str [], nilSl]] = List.map encT (m ++ [⟨1, fr, i, [], []⟩]) := by simp [encT]
        (refine run_leave hc (by simp; exact Gives.mk) ?_)
        simp only [resD, D.sl.injEq]
        simp
        funext k
        rw [e2]
        exact row_at _ k
      · have e : parts l 0 0 = m ++ txt fr l.length := by rw [h4, parts_end (by omega)]
        rw [e, txt_no _ _ (by omega)]
        (refine run_leave hc (by simp; exact Gives.mk) ?_)
        simp
  · simp only [Option.isSome_some] at hs1
    subst hs1
    obtain rfl := hs2 t rfl
    obtain ⟨h5, h6, h7, h8, h9, h10⟩ := hle u rfl
    have hraw := rRaw_ok l u (fun h => ⟨h8 h, h6⟩) hm
    have hend := rRawEnd_ok l u.name u.to h6 hm (by omega)
    have hre := rawE_le l u.to u.name h6
    have hr := hso u
    have hte := txt_enc u.to (rawE l u.to u.name)
    have htn := txt_no u.to (rawE l u.to u.name)
    generalize rawE l u.to u.name = z at hend hre hr hte htn
    rcases attD_cases u with ha | ha
    all_goals
      have ha' : (if u.kind = 2 then attSl u.atts else nilSl) = _ := ha
      simp only [encT, ha] at hmk hraw
      repeat' (first | (first | refine ewp_seq ?_ | refine run_region hc (by simp; exact Ends.go) (by first | exact True.intro | omega | (simp; done) | (simp; omega) | (simp at *; omega)) ?_ | refine run_draw hc (by kernel_rfl) (by kernel_rfl) (by simp; exact Ends.go) (by first | exact True.intro | omega | (simp; done) | (simp; omega) | (simp at *; omega)) ?_ | refine ewp_scope ?_ | refine scopeQ_normal ?_ | refine scopeQ_ret ?_ | refine scopeQ_exit ?_ | refine ewp_skip ?_ | refine ewp_block ?_ | refine ewp_exit ?_ | refine ewp_label ?_ | refine thenQ_normal ?_ | refine thenQ_ret ?_ | refine thenQ_exit ?_ | refine blockQ_normal ?_ | refine blockQ_ret ?_ | refine blockQ_here ?_ | refine blockQ_there (by decide) ?_ | refine ewp_ret ?_ | refine opsW_nil ?_ | refine quietW_nil ?_ | (refine run_cond (by simp; exact Gives.mk) (fun hb => ?_) (fun hb => ?_) <;> (try simp at hb)) | fail) | (first | refine run_callW hc (by simp; exact Gives.mk) (by simp; exact Gives.mk) (by simp; exact Gives.mk) (by simp; exact Gives.mk) (by simp; exact Gives.mk) (fun _ => by first | exact hmk | exact hraw | exact hend | exact rTextToken_ok _ _) (by simp) (by simp) ?_ | refine run_callQ hc (by simp; exact Gives.mk) (by simp; exact Gives.mk) (by simp; exact Gives.mk) (by simp; exact Gives.mk) (by simp; exact Gives.mk) (fun _ => by first | exact hmk | exact hraw | exact hend | exact rTextToken_ok _ _) (by simp) (by simp) ?_ | refine run_ops hc (by simp; first | exact Ends.go | exact Ends.halt) (by decide) (by first | exact True.intro | omega | (simp; done) | (simp; omega) | (simp at *; omega)) ?_ | refine run_quiet hc (by simp; first | exact Ends.go | exact Ends.halt) (by decide) (by first | exact True.intro | omega | (simp; done) | (simp; omega) | (simp at *; omega)) ?_ | refine run_regionW hc (by simp; exact Ends.halt) (by first | exact True.intro | omega | (simp; done) | (simp; omega) | (simp at *; omega)) ?_ | refine run_drawN hc (by kernel_rfl) (by decide) (by kernel_rfl) (by simp; exact Ends.halt) (by first | exact True.intro | omega | (simp; done) | (simp; omega) | (simp at *; omega)) ?_ | fail))
      all_goals try contradiction
      · have t1 := txt_enc fr i (by omega)
        have t2 := hte (by omega)
        exact ⟨(z, z, m ++ txt fr i ++ u :: txt u.to z), ⟨by simp; omega, by simp, by simp [t1, t2]; omega, by rw [h4, hr (by omega) rfl, if_pos (by assumption)]; simp⟩, by simp; omega, run_back [0, 3, 4, 5] [40000] (by simp; exact Gives.mk) (by simp; exact Gives.mk) (by simp [t1, t2, encT, ha', Nat.add_assoc])⟩
      · have t1 := txt_enc fr i (by omega)
        have t2 := htn (by omega)
        exact ⟨(z, z, m ++ txt fr i ++ u :: txt u.to z), ⟨by simp; omega, by simp, by simp [t1, t2]; omega, by rw [h4, hr (by omega) rfl, if_pos (by assumption)]; simp⟩, by simp; omega, run_back [0, 3, 4, 5] [40000] (by simp; exact Gives.mk) (by simp; exact Gives.mk) (by simp [t1, t2, encT, ha', Nat.add_assoc])⟩
      · have t1 := txt_enc fr i (by omega)
        exact ⟨(u.to, u.to, m ++ txt fr i ++ [u]), ⟨by simp; omega, by simp, by simp [t1]; omega, by rw [h4, hr (by omega) rfl, if_neg (by simpa using hb)]; simp⟩, by simp; omega, run_back [0, 3, 4, 5] [40000] (by simp; exact Gives.mk) (by simp; exact Gives.mk) (by simp [t1, encT, ha', Nat.add_assoc])⟩
      · have t1 := txt_no fr i (by omega)
        have t2 := hte (by omega)
        exact ⟨(z, z, m ++ txt fr i ++ u :: txt u.to z), ⟨by simp; omega, by simp, by simp [t1, t2]; omega, by rw [h4, hr (by omega) rfl, if_pos (by assumption)]; simp⟩, by simp; omega, run_back [0, 3, 4, 5] [40000] (by simp; exact Gives.mk) (by simp; exact Gives.mk) (by simp [t1, t2, encT, ha', Nat.add_assoc])⟩
      · have t1 := txt_no fr i (by omega)
        have t2 := htn (by omega)
        exact ⟨(z, z, m ++ txt fr i ++ u :: txt u.to z), ⟨by simp; omega, by simp, by simp [t1, t2]; omega, by rw [h4, hr (by omega) rfl, if_pos (by assumption)]; simp⟩, by simp; omega, run_back [0, 3, 4, 5] [40000] (by simp; exact Gives.mk) (by simp; exact Gives.mk) (by simp [t1, t2, encT, ha', Nat.add_assoc])⟩
      · have t1 := txt_no fr i (by omega)
        exact ⟨(u.to, u.to, m ++ txt fr i ++ [u]), ⟨by simp; omega, by simp, by simp [t1]; omega, by rw [h4, hr (by omega) rfl, if_neg (by simpa using hb)]; simp⟩, by simp; omega, run_back [0, 3, 4, 5] [40000] (by simp; exact Gives.mk) (by simp; exact Gives.mk) (by simp [t1, encT, ha', Nat.add_assoc])⟩
      · have e : parts l 0 0 = m ++ txt fr l.length := by rw [h4, parts_end (by omega)]
        have hil : i = l.length := by omega
        rw [e, txt_enc _ _ (by omega), ← hil]
        have e2 : List.map encT m ++ [[int 1, int fr, int i, str [], nilSl]] = List.map encT (m ++ [⟨1, fr, i, [], []⟩]) := by simp [encT]
        (refine run_leave hc (by simp; exact Gives.mk) ?_)
        simp only [resD, D.sl.injEq]
        simp
        funext k
        rw [e2]
        exact row_at _ k
      · have e : parts l 0 0 = m ++ txt fr l.length := by rw [h4, parts_end (by omega)]
        rw [e, txt_no _ _ (by omega)]
        (refine run_leave hc (by simp; exact Gives.mk) ?_)
        simp

end Go.Proofs.Ytgebkjngnfdeiaa
