/-
  PAGE: what a safe text says: PageSaysSafe. (WITH run_drawN.)
-/
import Derived.Test.YtgebkjngnfdeiaaSayC
set_option linter.unusedSimpArgs false
set_option linter.unusedVariables false
namespace Go.Proofs.Ytgebkjngnfdeiaa
open Go.Lw Go.RowKit Go.ChangeShapes Go.WideShapes Go.ChangeAt
set_option maxRecDepth 100000
set_option maxHeartbeats 1000000

/-! A text without '<' is one token. -/
theorem run_plain {l : Bs} (h : ∀ c ∈ l, c ≠ 60) : ∀ (n i : Nat), l.length - i ≤ n → run l 0 i [] = txt 0 l.length := by
  intro n
  induction n with
  | zero => intro i hi; rw [run_end (by omega)]; rfl
  | succ n ih =>
    intro i hi
    by_cases hc : i < l.length
    · rw [run_none hc (by simp) (tok_lt (by
        rw [List.getElem?_eq_getElem hc]
        intro e
        exact h _ (List.getElem_mem hc) (Option.some.inj e)))]
      exact ih (i + 1) (by omega)
    · rw [run_end (by omega)]; rfl
theorem sub_all (l : Bs) : sub l 0 l.length = l := by rw [sub_eq _ _ _ (Nat.le_refl _), List.take_length]; rfl
theorem said_plain {l : Bs} (h : ∀ c ∈ l, c ≠ 60) : tid (Lib.join (sdT l (run l 0 0 []) (run l 0 0 []).length) [32]) = tid (meant l) := by
  rw [run_plain h l.length 0 (by omega)]
  rcases Nat.eq_zero_or_pos l.length with h0 | h0
  · obtain rfl := List.length_eq_zero_iff.1 h0
    rw [txt_no _ _ (by simp)]
    simp [sdT, Lib.join, meant]
  · rw [txt_enc _ _ h0]
    have hi : incl [⟨1, 0, l.length, [], []⟩] 0 = true := by simp [incl, bhd]
    simp only [List.length_singleton, sdT, hi, if_true]
    simp [tx, Lib.join, sub_all]

/-! A text within a title. -/
def opT : Bs := [60, 116, 105, 116, 108, 101, 62]
def clT : Bs := [60, 47, 116, 105, 116, 108, 101, 62]
abbrev inT (s : Bs) : Bs := opT ++ s ++ clT
theorem inT_len (s : Bs) : (inT s).length = s.length + 15 := by simp [opT, clT]
theorem at_app (a b : Bs) (k : Nat) : (a ++ b)[a.length + k]? = b[k]? := by rw [List.getElem?_append_right (by omega)]; congr 1; omega
theorem drop_app (a b : Bs) (k : Nat) : (a ++ b).drop (a.length + k) = b.drop k := by rw [← List.drop_drop, List.drop_left]
theorem nm_app (a b : Bs) (k : Nat) (p : UInt8 → Bool) : nm p (a ++ b) (a.length + k) = a.length + nm p b k := by
  unfold nm skip
  rw [at_app, drop_app, List.length_append]
  by_cases h : k < b.length ∧ isLet (b[k]?.getD 0) = true
  · rw [if_pos h, if_pos ⟨by omega, h.2⟩]; omega
  · rw [if_neg h, if_neg (fun h' => h ⟨by omega, h'.2⟩)]
theorem skip_app (a b : Bs) (k : Nat) (p : UInt8 → Bool) : skip p (a ++ b) (a.length + k) = a.length + skip p b k := by
  unfold skip
  rw [drop_app]; omega
theorem tok_open (r : Bs) : tok (opT ++ r) 0 = some ⟨2, 0, 7, ttl, []⟩ := by
  have e : opT ++ r = 60 :: 116 :: 105 :: 116 :: 108 :: 101 :: 62 :: r := rfl
  rw [e]
  generalize hl : (60 :: 116 :: 105 :: 116 :: 108 :: 101 :: 62 :: r : Bs) = l
  have h1 : cmt l 0 = none := by rw [← hl]; unfold cmt; rw [if_neg (fun h => by simp [List.isPrefixOf] at h)]
  have h2 : (shut l 0).1 = none := by rw [← hl]; unfold shut; rw [if_neg (by simp [List.isPrefixOf])]
  have hb : skip isBl l 6 = 6 := by
    rw [← hl]; unfold skip
    have : isBl 62 = false := by decide
    simp [List.takeWhile, this]
  have hn : nm inTagB l 1 = 6 := by
    rw [← hl]; unfold nm skip
    have t1 : inTagB 116 = true := by decide
    have t2 : inTagB 105 = true := by decide
    have t3 : inTagB 108 = true := by decide
    have t4 : inTagB 101 = true := by decide
    have t5 : inTagB 62 = false := by decide
    have t6 : isLet 116 = true := by decide
    rw [if_pos ⟨by simp, by simpa using t6⟩]
    simp [List.takeWhile, t1, t2, t3, t4, t5]
  have ha : att l 6 = (.none, false, 6) := by unfold att; rw [if_pos hb]
  have hs : atts l 6 = ([], 6) := atts_no (by rw [ha])
  have g0 : l[0]? = some 60 := by rw [← hl]; rfl
  have g6 : l[6]? = some 62 := by rw [← hl]; rfl
  have ht : small ((l.take 6).drop 1) = ttl := by rw [← hl]; rfl
  have ho : (opn l 0).1 = some (ttl, [], 7) := by
    unfold opn
    rw [if_pos g0]
    simp only [Nat.zero_add, hn, hs, hb]
    have g47 : ¬ l[6]? = some 47 := by rw [g6]; decide
    rw [if_neg (show ¬ (6 = 1) by decide), if_neg g47, if_pos g6, ht]
  unfold tok
  rw [h1, h2, ho]
theorem tok_close : tok clT 0 = some ⟨3, 0, 8, ttl, []⟩ := by
  have h1 : cmt clT 0 = none := by unfold cmt; rw [if_neg (fun h => by simp [List.isPrefixOf, clT] at h)]
  have hn : nm inTagB clT 2 = 7 := by decide
  have hb : skip isBl clT 7 = 7 := by decide
  have h2 : (shut clT 0).1 = some (ttl, 8) := by
    unfold shut
    simp only [Nat.zero_add, hn, hb]
    decide
  unfold tok
  rw [h1, h2]
theorem tok_end (a : Bs) : tok (a ++ clT) a.length = some ⟨3, a.length, a.length + 8, ttl, []⟩ := by
  have d0 : (a ++ clT).drop a.length = clT := List.drop_left
  have h1 : cmt (a ++ clT) a.length = none := by unfold cmt; rw [d0, if_neg (fun h => by simp [List.isPrefixOf, clT] at h)]
  have hn : nm inTagB (a ++ clT) (a.length + 2) = a.length + 7 := by rw [nm_app]; rw [show nm inTagB clT 2 = 7 by decide]
  have hb : skip isBl (a ++ clT) (a.length + 7) = a.length + 7 := by rw [skip_app]; rw [show skip isBl clT 7 = 7 by decide]
  have g7 : (a ++ clT)[a.length + 7]? = some 62 := by rw [at_app]; rfl
  have hsm : small (((a ++ clT).take (a.length + 7)).drop (a.length + 2)) = ttl := by
    rw [List.take_length_add_append, drop_app]; decide
  have h2 : (shut (a ++ clT) a.length).1 = some (ttl, a.length + 8) := by
    unfold shut
    rw [d0, if_pos (by decide), hn, hb, if_pos ⟨by omega, g7⟩, hsm]
  unfold tok
  rw [h1, h2]
theorem rawAt_end (a : Bs) : rawAt (a ++ clT) a.length ttl = true := by
  have d0 : (a ++ clT).drop a.length = clT := List.drop_left
  have g7 : (a ++ clT)[a.length + 7]? = some 62 := by rw [at_app]; rfl
  have hsm : small (((a ++ clT).take (a.length + 7)).drop (a.length + 2)) = ttl := by
    rw [List.take_length_add_append, drop_app]; decide
  have hl : ttl.length = 5 := rfl
  unfold rawAt
  rw [d0, hl, show a.length + 2 + 5 = a.length + 7 by omega, hsm, g7]
  simp [clT]
theorem rawE_at (a b : Bs) (h : ∀ c ∈ b, c ≠ 60) : ∀ (n k : Nat), b.length - k ≤ n → k ≤ b.length → rawE (a ++ b ++ clT) (a.length + k) ttl = a.length + b.length := by
  have hend : rawE (a ++ b ++ clT) (a.length + b.length) ttl = a.length + b.length := by
    have := rawAt_end (a ++ b)
    rw [List.length_append] at this
    rw [rawE, if_pos (by simp [clT]), if_pos this]
  intro n
  induction n with
  | zero =>
    intro k h1 h2
    obtain rfl : k = b.length := by omega
    exact hend
  | succ n ih =>
    intro k h1 h2
    by_cases hk : k < b.length
    · rw [rawE, if_pos (by simp; omega), if_neg, Nat.add_assoc, ih (k + 1) (by omega) (by omega)]
      have hne : ((60 : UInt8) == b[k]) = false := by
        rw [beq_eq_false_iff_ne]
        exact fun e => h _ (List.getElem_mem hk) e.symm
      have hpf : [60, 47].isPrefixOf ((a ++ b ++ clT).drop (a.length + k)) = false := by
        rw [List.append_assoc, drop_app, List.drop_append_of_le_length (by omega), List.drop_eq_getElem_cons hk]
        show ((60 : UInt8) == b[k] && _) = false
        rw [hne]; rfl
      unfold rawAt
      rw [hpf]
      simp
    · obtain rfl : k = b.length := by omega
      exact hend
/-- The tokens of a text within a title. -/
theorem run_title {s : Bs} (h : ∀ c ∈ s, c ≠ 60) : run (inT s) 0 0 [] = ⟨2, 0, 7, ttl, []⟩ :: (txt 7 (7 + s.length) ++ [⟨3, 7 + s.length, 15 + s.length, ttl, []⟩]) := by
  have hlen := inT_len s
  have t1 : tok (inT s) 0 = some ⟨2, 0, 7, ttl, []⟩ := by
    rw [show inT s = opT ++ (s ++ clT) by simp]
    exact tok_open _
  have hr : rawE (inT s) 7 ttl = 7 + s.length := rawE_at opT s h s.length 0 (by omega) (by omega)
  have b1 : rawB (inT s) ⟨2, 0, 7, ttl, []⟩ = true := by
    have g5 : (inT s)[5]? = some 101 := by simp [opT]
    unfold rawB
    simp only [show 7 - 2 = 5 from rfl, g5]
    decide
  have t2 : tok (inT s) (7 + s.length) = some ⟨3, 7 + s.length, 15 + s.length, ttl, []⟩ := by
    have := tok_end (opT ++ s)
    rw [List.length_append, show opT.length = 7 from rfl] at this
    rw [this, show 7 + s.length + 8 = 15 + s.length by omega]
  have b2 : rawB (inT s) ⟨3, 7 + s.length, 15 + s.length, ttl, []⟩ = false := by simp [rawB]
  rw [run_some (by omega) (by simp) t1, if_pos b1]
  simp only [hr]
  have htl := txt_len 7 (7 + s.length)
  rw [run_some (by omega) (by simp [txt]; split <;> simp) t2, if_neg (by rw [b2]; decide), run_end (by simp only [hlen]; omega), txt_no 0 0 (by omega), txt_no (7 + s.length) (7 + s.length) (by omega)]
  simp only [hlen]
  rw [txt_no (15 + s.length) (s.length + 15) (by omega)]
  simp
theorem title_title {s : Bs} (h : ∀ c ∈ s, c ≠ 60) : titR (inT s) (run (inT s) 0 0 []) 0 = if s = [] then none else some (tid (meant s)) := by
  rw [run_title h]
  rcases Nat.eq_zero_or_pos s.length with h0 | h0
  · obtain rfl := List.length_eq_zero_iff.1 h0
    rw [txt_no _ _ (by simp), if_pos rfl]
    rw [titR, if_pos (by simp), if_neg (by simp [bhd]), titR, if_pos (by simp), if_neg (by simp [bhd]), titR, if_neg (by simp)]
  · rw [txt_enc _ _ (by omega), if_neg (by intro e; rw [e] at h0; simp at h0)]
    rw [titR, if_pos (by simp), if_neg (by simp [bhd]), titR, if_pos (by simp), if_pos (by simp [bhd])]
    have e : sub (inT s) 7 (7 + s.length) = s := by
      rw [sub_eq _ _ _ (by rw [inT_len]; omega), show 7 + s.length = (opT ++ s).length by simp [opT]; omega, List.take_left, show 7 = opT.length from rfl, List.drop_left]
    have e2 : tx (inT s) (⟨2, 0, 7, ttl, []⟩ :: ([⟨1, 7, 7 + s.length, [], []⟩] ++ [⟨3, 7 + s.length, 15 + s.length, ttl, []⟩])) 1 = meant s := by
      show meant (sub (inT s) 7 (7 + s.length)) = _
      rw [e]
    rw [e2]
theorem said_title {s : Bs} (h : ∀ c ∈ s, c ≠ 60) : tid (Lib.join (sdT (inT s) (run (inT s) 0 0 []) (run (inT s) 0 0 []).length) [32]) = [] := by
  rw [run_title h]
  rcases Nat.lt_or_ge 7 (7 + s.length) with h0 | h0
  · rw [txt_enc _ _ h0]
    have i0 : ∀ m, incl (⟨2, 0, 7, ttl, []⟩ :: m) 0 = false := fun m => by simp [incl]
    have i1 : ∀ x m, incl (⟨2, 0, 7, ttl, []⟩ :: x :: m) 1 = false := fun x m => by simp [incl, bhd, raws]
    have i2 : ∀ x y t m, incl (x :: y :: ⟨3, t, 15 + s.length, ttl, []⟩ :: m) 2 = false := fun x y t m => by simp [incl]
    simp only [List.cons_append, List.nil_append, List.length_cons, List.length_nil, sdT, i0, i1, i2]
    rfl
  · rw [txt_no _ _ (by omega)]
    have i0 : ∀ m, incl (⟨2, 0, 7, ttl, []⟩ :: m) 0 = false := fun m => by simp [incl]
    have i2 : ∀ x t m, incl (x :: ⟨3, t, 15 + s.length, ttl, []⟩ :: m) 1 = false := fun x t m => by simp [incl]
    simp only [List.cons_append, List.nil_append, List.length_cons, List.length_nil, sdT, i0, i2]
    rfl
theorem rSingleF_ok (l : Bs) (hm : l.length ≤ 100000000000) : FnOk Try.prog 19 [str l] (str (tid l)) := by
  refine fnOk Try.func19 rfl (by kernel_rfl) Try.ntmps19 _ rfl (by simp) fun C hc => ?_
  repeat' (first | (first | refine ewp_seq ?_ | refine run_region hc (by simp; exact Ends.go) (by first | exact True.intro | omega | (simp; done) | (simp; omega) | (simp at *; omega)) ?_ | refine run_draw hc (by kernel_rfl) (by kernel_rfl) (by simp; exact Ends.go) (by first | exact True.intro | omega | (simp; done) | (simp; omega) | (simp at *; omega)) ?_ | refine ewp_scope ?_ | refine scopeQ_normal ?_ | refine scopeQ_ret ?_ | refine scopeQ_exit ?_ | refine ewp_skip ?_ | refine ewp_block ?_ | refine ewp_exit ?_ | refine ewp_label ?_ | refine thenQ_normal ?_ | refine thenQ_ret ?_ | refine thenQ_exit ?_ | refine blockQ_normal ?_ | refine blockQ_ret ?_ | refine blockQ_here ?_ | refine blockQ_there (by decide) ?_ | refine ewp_ret ?_ | refine opsW_nil ?_ | refine quietW_nil ?_ | (refine run_cond (by simp; exact Gives.mk) (fun hb => ?_) (fun hb => ?_) <;> (try simp at hb)) | fail) | (first | refine run_callW hc (by simp; exact Gives.mk) (by simp; exact Gives.mk) (by simp; exact Gives.mk) (by simp; exact Gives.mk) (by simp; exact Gives.mk) (fun _ => by first | exact rSingle_ok l hm) (by simp) (by simp) ?_ | refine run_callQ hc (by simp; exact Gives.mk) (by simp; exact Gives.mk) (by simp; exact Gives.mk) (by simp; exact Gives.mk) (by simp; exact Gives.mk) (fun _ => by first | exact rSingle_ok l hm) (by simp) (by simp) ?_ | refine run_ops hc (by simp; first | exact Ends.go | exact Ends.halt) (by decide) (by first | exact True.intro | omega | (simp; done) | (simp; omega) | (simp at *; omega)) ?_ | refine run_quiet hc (by simp; first | exact Ends.go | exact Ends.halt) (by decide) (by first | exact True.intro | omega | (simp; done) | (simp; omega) | (simp at *; omega)) ?_ | refine run_regionW hc (by simp; exact Ends.halt) (by first | exact True.intro | omega | (simp; done) | (simp; omega) | (simp at *; omega)) ?_ | refine run_drawN hc (by kernel_rfl) (by decide) (by kernel_rfl) (by simp; exact Ends.halt) (by first | exact True.intro | omega | (simp; done) | (simp; omega) | (simp at *; omega)) ?_ | fail))
  (refine run_leave hc (by simp; exact Gives.mk) ?_)
  simp
theorem safe_lt (l : Bs) : ∀ c ∈ safe l, c ≠ 60 := fun c hc h => by
  have := safe_none l c hc
  rw [h] at this
  simp at this
theorem saysSafe_ok (l : Bs) (hm : l.length ≤ maxLen) : FnOk Try.prog 7 [str l] (tru true) := by
  have hS := safeF_ok l hm
  refine fnOk Try.func7 rfl (by kernel_rfl) Try.ntmps7 _ rfl (by simp) fun C hc => ?_
  unfold maxLen at hm
  by_cases h : l.length ≤ 200000 ∧ (safe l).length ≤ 200000
  rotate_left
  · rw [if_neg h] at hS
    repeat' (first | (first | refine ewp_seq ?_ | refine run_region hc (by simp; exact Ends.go) (by first | exact True.intro | omega | (simp; done) | (simp; omega) | (simp at *; omega)) ?_ | refine run_draw hc (by kernel_rfl) (by kernel_rfl) (by simp; exact Ends.go) (by first | exact True.intro | omega | (simp; done) | (simp; omega) | (simp at *; omega)) ?_ | refine ewp_scope ?_ | refine scopeQ_normal ?_ | refine scopeQ_ret ?_ | refine scopeQ_exit ?_ | refine ewp_skip ?_ | refine ewp_block ?_ | refine ewp_exit ?_ | refine ewp_label ?_ | refine thenQ_normal ?_ | refine thenQ_ret ?_ | refine thenQ_exit ?_ | refine blockQ_normal ?_ | refine blockQ_ret ?_ | refine blockQ_here ?_ | refine blockQ_there (by decide) ?_ | refine ewp_ret ?_ | refine opsW_nil ?_ | refine quietW_nil ?_ | (refine run_cond (by simp; exact Gives.mk) (fun hb => ?_) (fun hb => ?_) <;> (try simp at hb)) | fail) | (first | refine run_callW hc (by simp; exact Gives.mk) (by simp; exact Gives.mk) (by simp; exact Gives.mk) (by simp; exact Gives.mk) (by simp; exact Gives.mk) (fun _ => by first | exact hS | exact awake_ok) (by simp) (by simp) ?_ | refine run_callQ hc (by simp; exact Gives.mk) (by simp; exact Gives.mk) (by simp; exact Gives.mk) (by simp; exact Gives.mk) (by simp; exact Gives.mk) (fun _ => by first | exact hS | exact awake_ok) (by simp) (by simp) ?_ | refine run_ops hc (by simp; first | exact Ends.go | exact Ends.halt) (by decide) (by first | exact True.intro | omega | (simp; done) | (simp; omega) | (simp at *; omega)) ?_ | refine run_quiet hc (by simp; first | exact Ends.go | exact Ends.halt) (by decide) (by first | exact True.intro | omega | (simp; done) | (simp; omega) | (simp at *; omega)) ?_ | refine run_regionW hc (by simp; exact Ends.halt) (by first | exact True.intro | omega | (simp; done) | (simp; omega) | (simp at *; omega)) ?_ | refine run_drawN hc (by kernel_rfl) (by decide) (by kernel_rfl) (by simp; exact Ends.halt) (by first | exact True.intro | omega | (simp; done) | (simp; omega) | (simp at *; omega)) ?_ | fail))
    all_goals try contradiction
    (refine run_leave hc (by simp; exact Gives.mk) ?_)
    simp
  rw [if_pos h] at hS
  by_cases h2 : (safe l).length + 20 ≤ 200000
  rotate_left
  · repeat' (first | (first | refine ewp_seq ?_ | refine run_region hc (by simp; exact Ends.go) (by first | exact True.intro | omega | (simp; done) | (simp; omega) | (simp at *; omega)) ?_ | refine run_draw hc (by kernel_rfl) (by kernel_rfl) (by simp; exact Ends.go) (by first | exact True.intro | omega | (simp; done) | (simp; omega) | (simp at *; omega)) ?_ | refine ewp_scope ?_ | refine scopeQ_normal ?_ | refine scopeQ_ret ?_ | refine scopeQ_exit ?_ | refine ewp_skip ?_ | refine ewp_block ?_ | refine ewp_exit ?_ | refine ewp_label ?_ | refine thenQ_normal ?_ | refine thenQ_ret ?_ | refine thenQ_exit ?_ | refine blockQ_normal ?_ | refine blockQ_ret ?_ | refine blockQ_here ?_ | refine blockQ_there (by decide) ?_ | refine ewp_ret ?_ | refine opsW_nil ?_ | refine quietW_nil ?_ | (refine run_cond (by simp; exact Gives.mk) (fun hb => ?_) (fun hb => ?_) <;> (try simp at hb)) | fail) | (first | refine run_callW hc (by simp; exact Gives.mk) (by simp; exact Gives.mk) (by simp; exact Gives.mk) (by simp; exact Gives.mk) (by simp; exact Gives.mk) (fun _ => by first | exact hS | exact awake_ok) (by simp) (by simp) ?_ | refine run_callQ hc (by simp; exact Gives.mk) (by simp; exact Gives.mk) (by simp; exact Gives.mk) (by simp; exact Gives.mk) (by simp; exact Gives.mk) (fun _ => by first | exact hS | exact awake_ok) (by simp) (by simp) ?_ | refine run_ops hc (by simp; first | exact Ends.go | exact Ends.halt) (by decide) (by first | exact True.intro | omega | (simp; done) | (simp; omega) | (simp at *; omega)) ?_ | refine run_quiet hc (by simp; first | exact Ends.go | exact Ends.halt) (by decide) (by first | exact True.intro | omega | (simp; done) | (simp; omega) | (simp at *; omega)) ?_ | refine run_regionW hc (by simp; exact Ends.halt) (by first | exact True.intro | omega | (simp; done) | (simp; omega) | (simp at *; omega)) ?_ | refine run_drawN hc (by kernel_rfl) (by decide) (by kernel_rfl) (by simp; exact Ends.halt) (by first | exact True.intro | omega | (simp; done) | (simp; omega) | (simp at *; omega)) ?_ | fail))
    · (refine run_leave hc (by simp; exact Gives.mk) ?_)
      simp
    · exfalso; omega
  have hsg := rSingleF_ok l (by omega)
  have hx := said_ok (safe l) (by unfold maxLen; omega)
  have hp := said_plain (safe_lt l)
  have hy := said_ok (inT (safe l)) (by rw [inT_len]; unfold maxLen; omega)
  have hz := title_ok (inT (safe l)) (by rw [inT_len]; unfold maxLen; omega)
  rw [hp, meant_safe, if_pos ⟨h.2, by rw [run_plain (safe_lt l) (safe l).length 0 (by omega)]; have := txt_len 0 (safe l).length; omega⟩] at hx
  have hrl : (run (inT (safe l)) 0 0 []).length ≤ 20000 := by rw [run_title (safe_lt l)]; have := txt_len 7 (7 + (safe l).length); simp; omega
  rw [said_title (safe_lt l), if_pos ⟨by rw [inT_len]; omega, hrl⟩] at hy
  rw [title_title (safe_lt l), meant_safe, if_pos ⟨by rw [inT_len]; omega, hrl⟩] at hz
  repeat' (first | (first | refine ewp_seq ?_ | refine run_region hc (by simp; exact Ends.go) (by first | exact True.intro | omega | (simp; done) | (simp; omega) | (simp at *; omega)) ?_ | refine run_draw hc (by kernel_rfl) (by kernel_rfl) (by simp; exact Ends.go) (by first | exact True.intro | omega | (simp; done) | (simp; omega) | (simp at *; omega)) ?_ | refine ewp_scope ?_ | refine scopeQ_normal ?_ | refine scopeQ_ret ?_ | refine scopeQ_exit ?_ | refine ewp_skip ?_ | refine ewp_block ?_ | refine ewp_exit ?_ | refine ewp_label ?_ | refine thenQ_normal ?_ | refine thenQ_ret ?_ | refine thenQ_exit ?_ | refine blockQ_normal ?_ | refine blockQ_ret ?_ | refine blockQ_here ?_ | refine blockQ_there (by decide) ?_ | refine ewp_ret ?_ | refine opsW_nil ?_ | refine quietW_nil ?_ | (refine run_cond (by simp; exact Gives.mk) (fun hb => ?_) (fun hb => ?_) <;> (try simp at hb)) | fail) | (first | refine run_callW hc (by simp; exact Gives.mk) (by simp; exact Gives.mk) (by simp; exact Gives.mk) (by simp; exact Gives.mk) (by simp; exact Gives.mk) (fun _ => by first | exact hS | exact hsg | exact hx | exact hy | exact hz | exact awake_ok) (by simp) (by simp) ?_ | refine run_callQ hc (by simp; exact Gives.mk) (by simp; exact Gives.mk) (by simp; exact Gives.mk) (by simp; exact Gives.mk) (by simp; exact Gives.mk) (fun _ => by first | exact hS | exact hsg | exact hx | exact hy | exact hz | exact awake_ok) (by simp) (by simp) ?_ | refine run_ops hc (by simp; first | exact Ends.go | exact Ends.halt) (by decide) (by first | exact True.intro | omega | (simp; done) | (simp; omega) | (simp at *; omega)) ?_ | refine run_quiet hc (by simp; first | exact Ends.go | exact Ends.halt) (by decide) (by first | exact True.intro | omega | (simp; done) | (simp; omega) | (simp at *; omega)) ?_ | refine run_regionW hc (by simp; exact Ends.halt) (by first | exact True.intro | omega | (simp; done) | (simp; omega) | (simp at *; omega)) ?_ | refine run_drawN hc (by kernel_rfl) (by decide) (by kernel_rfl) (by simp; exact Ends.halt) (by first | exact True.intro | omega | (simp; done) | (simp; omega) | (simp at *; omega)) ?_ | fail))
  · exfalso; omega
  obtain ⟨b, hbe⟩ : ∃ b, b = inT (safe l) := ⟨_, rfl⟩
  rw [← hbe] at hy hz
  have hbl : b.length = (safe l).length + 15 := by rw [hbe, inT_len]
  refine opsW_le (st' := ⟨[(3, .d (str (safe l))), (5, .d (str (tid l))), (7, .os 52 b.length), (54, .os 52 b.length)], [(52, .own 5 1 (false, [.lit (.int .u8 0)]) (b.map byteRow))]⟩) (run_back [3, 5, 7, 54] [52] (by simp; exact Gives.mk) (by simp; exact Gives.mk) (by simp [hbe, opT, clT, byteRow])) ?_
  by_cases hse : safe l = []
  · have hl0 : tid l = [] := by
      have : meant (safe l) = l := meant_safe l
      rw [hse] at this
      rw [← this]
      simp [meant, tid]
    rw [if_pos hse] at hz
    rw [hl0] at hx hsg ⊢
    simp only [titD] at hz
    repeat' (first | (first | refine ewp_seq ?_ | refine run_region hc (by simp; exact Ends.go) (by first | exact True.intro | omega | (simp; done) | (simp; omega) | (simp at *; omega)) ?_ | refine run_draw hc (by kernel_rfl) (by kernel_rfl) (by simp; exact Ends.go) (by first | exact True.intro | omega | (simp; done) | (simp; omega) | (simp at *; omega)) ?_ | refine ewp_scope ?_ | refine scopeQ_normal ?_ | refine scopeQ_ret ?_ | refine scopeQ_exit ?_ | refine ewp_skip ?_ | refine ewp_block ?_ | refine ewp_exit ?_ | refine ewp_label ?_ | refine thenQ_normal ?_ | refine thenQ_ret ?_ | refine thenQ_exit ?_ | refine blockQ_normal ?_ | refine blockQ_ret ?_ | refine blockQ_here ?_ | refine blockQ_there (by decide) ?_ | refine ewp_ret ?_ | refine opsW_nil ?_ | refine quietW_nil ?_ | (refine run_cond (by simp; exact Gives.mk) (fun hb => ?_) (fun hb => ?_) <;> (try simp at hb)) | fail) | (first | refine run_callW hc (by simp; exact Gives.mk) (by simp; exact Gives.mk) (by simp; exact Gives.mk) (by simp; exact Gives.mk) (by simp; exact Gives.mk) (fun _ => by first | exact hz | exact hy | exact awake_ok) (by simp) (by simp) ?_ | refine run_callQ hc (by simp; exact Gives.mk) (by simp; exact Gives.mk) (by simp; exact Gives.mk) (by simp; exact Gives.mk) (by simp; exact Gives.mk) (fun _ => by first | exact hz | exact hy | exact awake_ok) (by simp) (by simp) ?_ | refine run_ops hc (by simp; first | exact Ends.go | exact Ends.halt) (by decide) (by first | exact True.intro | omega | (simp; done) | (simp; omega) | (simp at *; omega)) ?_ | refine run_quiet hc (by simp; first | exact Ends.go | exact Ends.halt) (by decide) (by first | exact True.intro | omega | (simp; done) | (simp; omega) | (simp at *; omega)) ?_ | refine run_regionW hc (by simp; exact Ends.halt) (by first | exact True.intro | omega | (simp; done) | (simp; omega) | (simp at *; omega)) ?_ | refine run_drawN hc (by kernel_rfl) (by decide) (by kernel_rfl) (by simp; exact Ends.halt) (by first | exact True.intro | omega | (simp; done) | (simp; omega) | (simp at *; omega)) ?_ | fail))
    (refine run_leave hc (by simp; exact Gives.mk) ?_)
    simp [hse]
  · rw [if_neg hse] at hz
    simp only [titD] at hz
    repeat' (first | (first | refine ewp_seq ?_ | refine run_region hc (by simp; exact Ends.go) (by first | exact True.intro | omega | (simp; done) | (simp; omega) | (simp at *; omega)) ?_ | refine run_draw hc (by kernel_rfl) (by kernel_rfl) (by simp; exact Ends.go) (by first | exact True.intro | omega | (simp; done) | (simp; omega) | (simp at *; omega)) ?_ | refine ewp_scope ?_ | refine scopeQ_normal ?_ | refine scopeQ_ret ?_ | refine scopeQ_exit ?_ | refine ewp_skip ?_ | refine ewp_block ?_ | refine ewp_exit ?_ | refine ewp_label ?_ | refine thenQ_normal ?_ | refine thenQ_ret ?_ | refine thenQ_exit ?_ | refine blockQ_normal ?_ | refine blockQ_ret ?_ | refine blockQ_here ?_ | refine blockQ_there (by decide) ?_ | refine ewp_ret ?_ | refine opsW_nil ?_ | refine quietW_nil ?_ | (refine run_cond (by simp; exact Gives.mk) (fun hb => ?_) (fun hb => ?_) <;> (try simp at hb)) | fail) | (first | refine run_callW hc (by simp; exact Gives.mk) (by simp; exact Gives.mk) (by simp; exact Gives.mk) (by simp; exact Gives.mk) (by simp; exact Gives.mk) (fun _ => by first | exact hz | exact hy | exact awake_ok) (by simp) (by simp) ?_ | refine run_callQ hc (by simp; exact Gives.mk) (by simp; exact Gives.mk) (by simp; exact Gives.mk) (by simp; exact Gives.mk) (by simp; exact Gives.mk) (fun _ => by first | exact hz | exact hy | exact awake_ok) (by simp) (by simp) ?_ | refine run_ops hc (by simp; first | exact Ends.go | exact Ends.halt) (by decide) (by first | exact True.intro | omega | (simp; done) | (simp; omega) | (simp at *; omega)) ?_ | refine run_quiet hc (by simp; first | exact Ends.go | exact Ends.halt) (by decide) (by first | exact True.intro | omega | (simp; done) | (simp; omega) | (simp at *; omega)) ?_ | refine run_regionW hc (by simp; exact Ends.halt) (by first | exact True.intro | omega | (simp; done) | (simp; omega) | (simp at *; omega)) ?_ | refine run_drawN hc (by kernel_rfl) (by decide) (by kernel_rfl) (by simp; exact Ends.halt) (by first | exact True.intro | omega | (simp; done) | (simp; omega) | (simp at *; omega)) ?_ | fail))
    (refine run_leave hc (by simp; exact Gives.mk) ?_)
    simp [hse]
theorem liftedPageSaysSafe (os : Os) (started : os.Started) (H : Type) (enc : TypeId × Value → H) :
    ReturnsInHanded {} Try.checked os 7 .any (Rows.pageSaysSafeSpec.pre6 enc Try.prog Try.f7 Rows.pageSaysSafeRow.domain false) (Rows.pageSaysSafeSpec.post enc Try.prog Try.f7 false true false false) := by
  refine returnsInHanded_of_change_shaped (C := Try.checked) own started (by kernel_rfl) Try.func7
    (ChangeSpec.witness6 (enc := enc) (C := Try.checked) false ⟨#[], #[.string .empty], []⟩ 8 (by kernel_rfl) (by kernel_rfl) (by kernel_rfl) (by kernel_rfl)) ?_
  intro W base args ds gs before hval0 hW hcnd _ hsh _
  have hval : ∀ (j : Nat) t v, Try.f7.params[j]? = some t → args[j]? = some v → Value.okWide Try.prog W .any base t v := hval0
  have hW' := hW
  obtain ⟨p, q, hA0, _, _, _, _⟩ := hW
  have hA : DataW.TrodAll enc Try.prog W 0 (fun _ => true) true Try.f7.params.toList args.toList ds p := hA0
  rw [Try.params7] at hA hval
  obtain ⟨v0, _, d0, _, p0, _, hargs, rfl, _, h0, r0⟩ := trodAll_cons hA
  obtain ⟨rfl, rfl, _⟩ := trodAll_nil r0
  obtain rfl : args = #[v0] := by cases args; simp_all
  obtain ⟨a0, c0, e0⟩ := opnA_s H enc W base v0 d0 p0 (hval 0 _ v0 rfl rfl) h0
  exact law_contract laidOut (of_decide_eq_true (by kernel_rfl)) rfl Try.underlying4 rfl (fun ds hd => by
    match ds, hd with
    | [_], _ => rfl) hW' (std_of_shaped (by kernel_rfl) hsh) (ArgsL.rd (.cons e0 .nil)) (saysSafe_ok a0 c0)
theorem overPageSaysSafe : Rows.pageSaysSafeRow.holds Try.pinned (OpenSpec.ofChange Rows.pageSaysSafeSpec) :=
  OpenClaim.holds_of_wide 7 Try.f7 rfl rfl rfl rfl rfl rfl rfl ⟨rfl, rfl, rfl, rfl, rfl⟩ rfl rfl rfl rfl rfl (by kernel_rfl) Try.func7 (by kernel_rfl)
    (of_decide_eq_true (by kernel_rfl)) (by unfold Func.isWrapper; first | (rw [if_pos (by decide +kernel)]; kernel_rfl) | (rw [if_neg (by decide +kernel)]; exact ⟨rfl, rfl⟩))
    (fun os started H enc _ => liftedPageSaysSafe os started H enc)

/-- The given statement. -/
theorem pageSaysSafe_proved : Rows.PageSaysSafeSaid := overPageSaysSafe
#print axioms pageSaysSafe_proved
end Go.Proofs.Ytgebkjngnfdeiaa
