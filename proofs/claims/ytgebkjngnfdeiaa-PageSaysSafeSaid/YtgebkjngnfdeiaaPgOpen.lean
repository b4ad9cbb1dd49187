/-
  PAGE: the scanner: beginnings of tags, tokens. (WITH run_drawN.)
-/
import Derived.Test.YtgebkjngnfdeiaaPgAtt
set_option linter.unusedSimpArgs false
set_option linter.unusedVariables false
namespace Go.Proofs.Ytgebkjngnfdeiaa
open Go.Lw
set_option maxRecDepth 100000
set_option maxHeartbeats 1000000

theorem att_le (l : Bs) (i : Nat) (hi : i ≤ l.length) : (att l i).2.2 ≤ l.length ∧ i ≤ (att l i).2.2 ∧ ((att l i).2.1 = true → i < (att l i).2.2 ∧ i ≤ (att l i).1.fr ∧ (att l i).1.fr ≤ (att l i).1.to ∧ (att l i).1.to ≤ (att l i).2.2 ∧ ((att l i).1.has = false → (att l i).1.fr = (att l i).1.to)) := by
  have h1 := skip_ge isBl l i
  have h2 := skip_le isBl l i hi
  unfold att
  generalize skip isBl l i = b at h1 h2 ⊢
  have h3 := nm_ge inNameB l b
  have h4 := nm_le inNameB l b h2
  generalize nm inNameB l b = e at h3 h4 ⊢
  split
  · simp; omega
  split
  · simp; omega
  split
  · rename_i he
    have hlt : e < l.length := (List.getElem?_eq_some_iff.1 he).1
    obtain ⟨h5, h6, h7⟩ := val_le l (e + 1) (by omega)
    split
    · rename_i ho
      have h8 := h7 ho
      simp; omega
    · simp; omega
  · simp; omega
def atts (l : Bs) (i : Nat) : List Atr × Nat :=
  if (att l i).2.1 = true ∧ i < (att l i).2.2 ∧ (att l i).2.2 ≤ l.length then ((att l i).1 :: (atts l (att l i).2.2).1, (atts l (att l i).2.2).2) else ([], i)
termination_by l.length - i
theorem atts_yes {l : Bs} {i : Nat} (hi : i ≤ l.length) (h : (att l i).2.1 = true) : atts l i = ((att l i).1 :: (atts l (att l i).2.2).1, (atts l (att l i).2.2).2) := by
  have := att_le l i hi
  rw [atts, if_pos ⟨h, (this.2.2 h).1, this.1⟩]
theorem atts_no {l : Bs} {i : Nat} (h : (att l i).2.1 = false) : atts l i = ([], i) := by
  rw [atts, if_neg (fun hx => by rw [h] at hx; exact absurd hx.1 (by decide))]
theorem atts_le (l : Bs) (i : Nat) (hi : i ≤ l.length) : i ≤ (atts l i).2 ∧ (atts l i).2 ≤ l.length ∧ (∀ a ∈ (atts l i).1, i ≤ a.fr ∧ a.fr ≤ a.to ∧ a.to ≤ (atts l i).2 ∧ (a.has = false → a.fr = a.to)) ∧ (atts l i).1.length + i ≤ (atts l i).2 := by
  by_cases h : (att l i).2.1 = true
  · have h1 := att_le l i hi
    have h2 := h1.2.2 h
    have h3 := atts_le l (att l i).2.2 h1.1
    rw [atts_yes hi h]
    refine ⟨by simp; omega, by simp; omega, fun a ha => ?_, by simp; omega⟩
    cases ha with
    | head => exact ⟨h2.2.1, h2.2.2.1, by simp; omega, h2.2.2.2.2⟩
    | tail _ ha =>
      have := h3.2.2.1 a ha
      exact ⟨by omega, by omega, by simp; omega, this.2.2.2⟩
  · rw [atts_no (by simpa using h)]
    simp; omega
termination_by l.length - i
decreasing_by omega

abbrev attSl (m : List Atr) : D := .sl m.length fun i => encA (m[i]?.getD .none)
@[simp] theorem getD_encA (o : Option Atr) : (Option.map encA o).getD [.lit (.string (bs [])), .lit (.string (bs [])), .lit (.int .i64 0), .lit (.int .i64 0), .lit (.bool false)] = encA (o.getD .none) := by cases o <;> rfl
abbrev nilSl : D := .lit (.slice none 0 0)
/-- The beginning of a tag. -/
def opn (l : Bs) (i : Nat) : Option (Bs × List Atr × Nat) × Nat :=
  if l[i]? = some 60 then
    if nm inTagB l (i + 1) = i + 1 then (none, i + 1)
    else
      let r := atts l (nm inTagB l (i + 1))
      let b := skip isBl l r.2
      let c := if l[b]? = some 47 then b + 1 else b
      if l[c]? = some 62 then (some (small ((l.take (nm inTagB l (i + 1))).drop (i + 1)), r.1, c + 1), c + 1) else (none, c)
  else (none, i)
@[simp] def opnD : Option (Bs × List Atr × Nat) → D
  | some r => .tup [str r.1, attSl r.2.1, tru true]
  | none => .tup [str [], nilSl, tru false]
theorem open_ok (l : Bs) (i : Nat) (hi : i ≤ l.length) (hm : l.length ≤ 200000) :
    FnMem Try.prog 71 [.bp 100000 0] (scn l i) (.d (opnD (opn l i).1)) (scn l (opn l i).2) := by
  refine fnMem Try.func71 rfl (by kernel_rfl) Try.ntmps71 _ rfl (by simp) fun C hc => ?_
  have hh := has_ok l [60] i hi hm
  rw [pre_one] at hh
  by_cases h0 : l[i]? = some 60
  rotate_left
  · rw [decide_eq_false h0] at hh
    rw [show opn l i = (none, i) by unfold opn; rw [if_neg h0]]
    repeat' (first | (first | refine ewp_seq ?_ | refine run_region hc (by simp; exact Ends.go) (by first | exact True.intro | omega | (simp; done) | (simp; omega) | (simp at *; omega)) ?_ | refine run_draw hc (by kernel_rfl) (by kernel_rfl) (by simp; exact Ends.go) (by first | exact True.intro | omega | (simp; done) | (simp; omega) | (simp at *; omega)) ?_ | refine ewp_scope ?_ | refine scopeQ_normal ?_ | refine scopeQ_ret ?_ | refine scopeQ_exit ?_ | refine ewp_skip ?_ | refine ewp_block ?_ | refine ewp_exit ?_ | refine ewp_label ?_ | refine thenQ_normal ?_ | refine thenQ_ret ?_ | refine thenQ_exit ?_ | refine blockQ_normal ?_ | refine blockQ_ret ?_ | refine blockQ_here ?_ | refine blockQ_there (by decide) ?_ | refine ewp_ret ?_ | refine opsW_nil ?_ | refine quietW_nil ?_ | (refine run_cond (by simp; exact Gives.mk) (fun hb => ?_) (fun hb => ?_) <;> (try simp at hb)) | fail) | (first | refine run_callW hc (by simp; exact Gives.mk) (by simp; exact Gives.mk) (by simp; exact Gives.mk) (by simp; exact Gives.mk) (by simp; exact Gives.mk) (fun _ => by first | exact hh) (by simp) (by simp) ?_ | refine run_callQ hc (by simp; exact Gives.mk) (by simp; exact Gives.mk) (by simp; exact Gives.mk) (by simp; exact Gives.mk) (by simp; exact Gives.mk) (fun _ => by first | exact hh) (by simp) (by simp) ?_ | refine run_ops hc (by simp; first | exact Ends.go | exact Ends.halt) (by decide) (by first | exact True.intro | omega | (simp; done) | (simp; omega) | (simp at *; omega)) ?_ | refine run_quiet hc (by simp; first | exact Ends.go | exact Ends.halt) (by decide) (by first | exact True.intro | omega | (simp; done) | (simp; omega) | (simp at *; omega)) ?_ | refine run_regionW hc (by simp; exact Ends.halt) (by first | exact True.intro | omega | (simp; done) | (simp; omega) | (simp at *; omega)) ?_ | refine run_drawN hc (by kernel_rfl) (by decide) (by kernel_rfl) (by simp; exact Ends.halt) (by first | exact True.intro | omega | (simp; done) | (simp; omega) | (simp at *; omega)) ?_ | fail))
    all_goals try contradiction
    (refine run_leaveM [100000] hc (le_end rfl) (by simp; exact Gives.mk) (by simp; exact Gives.mk) (by first | (simp; done) | (simp; omega)) ?_)
    (first | (simp; done) | (simp; omega))
  have hlt : i < l.length := (List.getElem?_eq_some_iff.1 h0).1
  rw [decide_eq_true h0] at hh
  unfold opn
  rw [if_pos h0]
  have h2 := nm_ge inTagB l (i + 1)
  have h3 := nm_le inTagB l (i + 1) (by omega)
  have hn := name_ok inTagB _ inTag_ok l (i + 1) (by omega) hm
  generalize nm inTagB l (i + 1) = e at h2 h3 hn ⊢
  have hsm := small_ok ((l.take e).drop (i + 1)) (by simp; omega)
  repeat' (first | (first | refine ewp_seq ?_ | refine run_region hc (by simp; exact Ends.go) (by first | exact True.intro | omega | (simp; done) | (simp; omega) | (simp at *; omega)) ?_ | refine run_draw hc (by kernel_rfl) (by kernel_rfl) (by simp; exact Ends.go) (by first | exact True.intro | omega | (simp; done) | (simp; omega) | (simp at *; omega)) ?_ | refine ewp_scope ?_ | refine scopeQ_normal ?_ | refine scopeQ_ret ?_ | refine scopeQ_exit ?_ | refine ewp_skip ?_ | refine ewp_block ?_ | refine ewp_exit ?_ | refine ewp_label ?_ | refine thenQ_normal ?_ | refine thenQ_ret ?_ | refine thenQ_exit ?_ | refine blockQ_normal ?_ | refine blockQ_ret ?_ | refine blockQ_here ?_ | refine blockQ_there (by decide) ?_ | refine ewp_ret ?_ | refine opsW_nil ?_ | refine quietW_nil ?_ | (refine run_cond (by simp; exact Gives.mk) (fun hb => ?_) (fun hb => ?_) <;> (try simp at hb)) | fail) | (first | refine run_callW hc (by simp; exact Gives.mk) (by simp; exact Gives.mk) (by simp; exact Gives.mk) (by simp; exact Gives.mk) (by simp; exact Gives.mk) (fun _ => by first | exact hh) (by simp) (by simp) ?_ | refine run_callQ hc (by simp; exact Gives.mk) (by simp; exact Gives.mk) (by simp; exact Gives.mk) (by simp; exact Gives.mk) (by simp; exact Gives.mk) (fun _ => by first | exact hh) (by simp) (by simp) ?_ | refine run_ops hc (by simp; first | exact Ends.go | exact Ends.halt) (by decide) (by first | exact True.intro | omega | (simp; done) | (simp; omega) | (simp at *; omega)) ?_ | refine run_quiet hc (by simp; first | exact Ends.go | exact Ends.halt) (by decide) (by first | exact True.intro | omega | (simp; done) | (simp; omega) | (simp at *; omega)) ?_ | refine run_regionW hc (by simp; exact Ends.halt) (by first | exact True.intro | omega | (simp; done) | (simp; omega) | (simp at *; omega)) ?_ | refine run_drawN hc (by kernel_rfl) (by decide) (by kernel_rfl) (by simp; exact Ends.halt) (by first | exact True.intro | omega | (simp; done) | (simp; omega) | (simp at *; omega)) ?_ | fail) | (first | refine run_callM ([(100000, 100000)]) (hn) hc (by simp; exact Gives.mk) (by simp; exact Gives.mk) (by simp; exact Gives.mk) (by simp; exact Gives.mk) (by simp; exact Gives.mk) rfl (by simp; exact Gives.mk) (by simp; exact Gives.mk) rfl (by simp) (by simp) (by simp; exact Gives.mk) (by simp; exact Gives.mk) ?_ | fail))
  · rw [if_pos (by omega)]
    (refine run_leaveM [100000] hc (le_end rfl) (by simp; exact Gives.mk) (by simp; exact Gives.mk) (by first | (simp; done) | (simp; omega)) ?_)
    (first | (simp; done) | (simp; omega))
  rw [if_neg (by omega)]
  refine ewp_loop (fun x : Nat × List Atr => ⟨[(0, .bp 100000 0), (5, .d (str ((l.take e).drop (i + 1)))), (6, .os 40000 x.2.length)], [(100000, .box 86 [.d (str l), .d (int x.1)]), (40000, .own 38 5 (true, encA .none) (x.2.map encA))]⟩) (fun x => e ≤ x.1 ∧ x.1 ≤ l.length ∧ atts l e = (x.2 ++ (atts l x.1).1, (atts l x.1).2)) (fun x => l.length - x.1) (e, []) (by simp; omega) (run_keepB [(6, none, 40000, 38, encA .none)] [0, 5, 6] [100000, 40000] (by simp; exact Gives.mk) (by simp; exact Gives.mk) (by simp; exact Gives.mk)) ?_
  rintro ⟨j, m⟩ ⟨h4, h5, h6⟩
  simp only at h4 h5 h6 ⊢
  have ha := attribute_ok l j h5 hm
  have hal := att_le l j h5
  have hyes := fun h => atts_yes (l := l) h5 h
  have hno := fun h => atts_no (l := l) (i := j) h
  have hml : m.length ≤ 200000 := by
    have hle := atts_le l e h3
    rw [h6] at hle
    simp only [List.length_append] at hle
    omega
  generalize att l j = t at ha hal hyes hno
  obtain ⟨t, o, q⟩ := t
  simp only at ha hal hyes hno
  repeat' (first | (first | refine ewp_seq ?_ | refine run_region hc (by simp; exact Ends.go) (by first | exact True.intro | omega | (simp; done) | (simp; omega) | (simp at *; omega)) ?_ | refine run_draw hc (by kernel_rfl) (by kernel_rfl) (by simp; exact Ends.go) (by first | exact True.intro | omega | (simp; done) | (simp; omega) | (simp at *; omega)) ?_ | refine ewp_scope ?_ | refine scopeQ_normal ?_ | refine scopeQ_ret ?_ | refine scopeQ_exit ?_ | refine ewp_skip ?_ | refine ewp_block ?_ | refine ewp_exit ?_ | refine ewp_label ?_ | refine thenQ_normal ?_ | refine thenQ_ret ?_ | refine thenQ_exit ?_ | refine blockQ_normal ?_ | refine blockQ_ret ?_ | refine blockQ_here ?_ | refine blockQ_there (by decide) ?_ | refine ewp_ret ?_ | refine opsW_nil ?_ | refine quietW_nil ?_ | (refine run_cond (by simp; exact Gives.mk) (fun hb => ?_) (fun hb => ?_) <;> (try simp at hb)) | fail) | (first | refine run_callW hc (by simp; exact Gives.mk) (by simp; exact Gives.mk) (by simp; exact Gives.mk) (by simp; exact Gives.mk) (by simp; exact Gives.mk) (fun _ => by first | exact trivial) (by simp) (by simp) ?_ | refine run_callQ hc (by simp; exact Gives.mk) (by simp; exact Gives.mk) (by simp; exact Gives.mk) (by simp; exact Gives.mk) (by simp; exact Gives.mk) (fun _ => by first | exact trivial) (by simp) (by simp) ?_ | refine run_ops hc (by simp; first | exact Ends.go | exact Ends.halt) (by decide) (by first | exact True.intro | omega | (simp; done) | (simp; omega) | (simp at *; omega)) ?_ | refine run_quiet hc (by simp; first | exact Ends.go | exact Ends.halt) (by decide) (by first | exact True.intro | omega | (simp; done) | (simp; omega) | (simp at *; omega)) ?_ | refine run_regionW hc (by simp; exact Ends.halt) (by first | exact True.intro | omega | (simp; done) | (simp; omega) | (simp at *; omega)) ?_ | refine run_drawN hc (by kernel_rfl) (by decide) (by kernel_rfl) (by simp; exact Ends.halt) (by first | exact True.intro | omega | (simp; done) | (simp; omega) | (simp at *; omega)) ?_ | fail) | (first | refine run_callM ([(100000, 100000)]) (ha) hc (by simp; exact Gives.mk) (by simp; exact Gives.mk) (by simp; exact Gives.mk) (by simp; exact Gives.mk) (by simp; exact Gives.mk) rfl (by simp; exact Gives.mk) (by simp; exact Gives.mk) rfl (by simp) (by simp) (by simp; exact Gives.mk) (by simp; exact Gives.mk) ?_ | fail))
  · have e1 : atts l e = (m, j) := by rw [h6, hno hb]; simp
    rw [e1]
    simp only
    have h7 := skip_ge isBl l j
    have h8 := skip_le isBl l j h5
    have hs := some_ok isBl _ blank_ok l j h5 hm
    generalize skip isBl l j = b at h7 h8 hs ⊢
    have hq := has_ok l [47] b h8 hm
    rw [pre_one] at hq
    (first | refine run_sealW 40000 hc (by simp; exact Gives.mk) (by simp) ?_ | refine run_seal 40000 hc (by simp; exact Gives.mk) (by simp) ?_)
    repeat' (first | (first | refine ewp_seq ?_ | refine run_region hc (by simp; exact Ends.go) (by first | exact True.intro | omega | (simp; done) | (simp; omega) | (simp at *; omega)) ?_ | refine run_draw hc (by kernel_rfl) (by kernel_rfl) (by simp; exact Ends.go) (by first | exact True.intro | omega | (simp; done) | (simp; omega) | (simp at *; omega)) ?_ | refine ewp_scope ?_ | refine scopeQ_normal ?_ | refine scopeQ_ret ?_ | refine scopeQ_exit ?_ | refine ewp_skip ?_ | refine ewp_block ?_ | refine ewp_exit ?_ | refine ewp_label ?_ | refine thenQ_normal ?_ | refine thenQ_ret ?_ | refine thenQ_exit ?_ | refine blockQ_normal ?_ | refine blockQ_ret ?_ | refine blockQ_here ?_ | refine blockQ_there (by decide) ?_ | refine ewp_ret ?_ | refine opsW_nil ?_ | refine quietW_nil ?_ | (refine run_cond (by simp; exact Gives.mk) (fun hb => ?_) (fun hb => ?_) <;> (try simp at hb)) | fail) | (first | refine run_callW hc (by simp; exact Gives.mk) (by simp; exact Gives.mk) (by simp; exact Gives.mk) (by simp; exact Gives.mk) (by simp; exact Gives.mk) (fun _ => by first | exact hq) (by simp) (by simp) ?_ | refine run_callQ hc (by simp; exact Gives.mk) (by simp; exact Gives.mk) (by simp; exact Gives.mk) (by simp; exact Gives.mk) (by simp; exact Gives.mk) (fun _ => by first | exact hq) (by simp) (by simp) ?_ | refine run_ops hc (by simp; first | exact Ends.go | exact Ends.halt) (by decide) (by first | exact True.intro | omega | (simp; done) | (simp; omega) | (simp at *; omega)) ?_ | refine run_quiet hc (by simp; first | exact Ends.go | exact Ends.halt) (by decide) (by first | exact True.intro | omega | (simp; done) | (simp; omega) | (simp at *; omega)) ?_ | refine run_regionW hc (by simp; exact Ends.halt) (by first | exact True.intro | omega | (simp; done) | (simp; omega) | (simp at *; omega)) ?_ | refine run_drawN hc (by kernel_rfl) (by decide) (by kernel_rfl) (by simp; exact Ends.halt) (by first | exact True.intro | omega | (simp; done) | (simp; omega) | (simp at *; omega)) ?_ | fail) | (first | refine run_callM ([(100000, 100000)]) (hs) hc (by simp; exact Gives.mk) (by simp; exact Gives.mk) (by simp; exact Gives.mk) (by simp; exact Gives.mk) (by simp; exact Gives.mk) rfl (by simp; exact Gives.mk) (by simp; exact Gives.mk) rfl (by simp) (by simp) (by simp; exact Gives.mk) (by simp; exact Gives.mk) ?_ | fail))
    · have hbl : b < l.length := (List.getElem?_eq_some_iff.1 hb).1
      rw [if_pos hb]
      have hg := has_ok l [62] (b + 1) (by omega) hm
      rw [pre_one] at hg
      repeat' (first | (first | refine ewp_seq ?_ | refine run_region hc (by simp; exact Ends.go) (by first | exact True.intro | omega | (simp; done) | (simp; omega) | (simp at *; omega)) ?_ | refine run_draw hc (by kernel_rfl) (by kernel_rfl) (by simp; exact Ends.go) (by first | exact True.intro | omega | (simp; done) | (simp; omega) | (simp at *; omega)) ?_ | refine ewp_scope ?_ | refine scopeQ_normal ?_ | refine scopeQ_ret ?_ | refine scopeQ_exit ?_ | refine ewp_skip ?_ | refine ewp_block ?_ | refine ewp_exit ?_ | refine ewp_label ?_ | refine thenQ_normal ?_ | refine thenQ_ret ?_ | refine thenQ_exit ?_ | refine blockQ_normal ?_ | refine blockQ_ret ?_ | refine blockQ_here ?_ | refine blockQ_there (by decide) ?_ | refine ewp_ret ?_ | refine opsW_nil ?_ | refine quietW_nil ?_ | (refine run_cond (by simp; exact Gives.mk) (fun hb => ?_) (fun hb => ?_) <;> (try simp at hb)) | fail) | (first | refine run_callW hc (by simp; exact Gives.mk) (by simp; exact Gives.mk) (by simp; exact Gives.mk) (by simp; exact Gives.mk) (by simp; exact Gives.mk) (fun _ => by first | exact hg | exact hsm) (by simp) (by simp) ?_ | refine run_callQ hc (by simp; exact Gives.mk) (by simp; exact Gives.mk) (by simp; exact Gives.mk) (by simp; exact Gives.mk) (by simp; exact Gives.mk) (fun _ => by first | exact hg | exact hsm) (by simp) (by simp) ?_ | refine run_ops hc (by simp; first | exact Ends.go | exact Ends.halt) (by decide) (by first | exact True.intro | omega | (simp; done) | (simp; omega) | (simp at *; omega)) ?_ | refine run_quiet hc (by simp; first | exact Ends.go | exact Ends.halt) (by decide) (by first | exact True.intro | omega | (simp; done) | (simp; omega) | (simp at *; omega)) ?_ | refine run_regionW hc (by simp; exact Ends.halt) (by first | exact True.intro | omega | (simp; done) | (simp; omega) | (simp at *; omega)) ?_ | refine run_drawN hc (by kernel_rfl) (by decide) (by kernel_rfl) (by simp; exact Ends.halt) (by first | exact True.intro | omega | (simp; done) | (simp; omega) | (simp at *; omega)) ?_ | fail))
      · rw [if_neg hb]
        (refine run_leaveM [100000] hc (le_end rfl) (by simp; exact Gives.mk) (by simp; exact Gives.mk) (by first | (simp; done) | (simp; omega)) ?_)
        (first | (simp; done) | (simp; omega))
      · rw [if_pos hb]
        have hbl : b + 1 < l.length := (List.getElem?_eq_some_iff.1 hb).1
        repeat' (first | (first | refine ewp_seq ?_ | refine run_region hc (by simp; exact Ends.go) (by first | exact True.intro | omega | (simp; done) | (simp; omega) | (simp at *; omega)) ?_ | refine run_draw hc (by kernel_rfl) (by kernel_rfl) (by simp; exact Ends.go) (by first | exact True.intro | omega | (simp; done) | (simp; omega) | (simp at *; omega)) ?_ | refine ewp_scope ?_ | refine scopeQ_normal ?_ | refine scopeQ_ret ?_ | refine scopeQ_exit ?_ | refine ewp_skip ?_ | refine ewp_block ?_ | refine ewp_exit ?_ | refine ewp_label ?_ | refine thenQ_normal ?_ | refine thenQ_ret ?_ | refine thenQ_exit ?_ | refine blockQ_normal ?_ | refine blockQ_ret ?_ | refine blockQ_here ?_ | refine blockQ_there (by decide) ?_ | refine ewp_ret ?_ | refine opsW_nil ?_ | refine quietW_nil ?_ | (refine run_cond (by simp; exact Gives.mk) (fun hb => ?_) (fun hb => ?_) <;> (try simp at hb)) | fail) | (first | refine run_callW hc (by simp; exact Gives.mk) (by simp; exact Gives.mk) (by simp; exact Gives.mk) (by simp; exact Gives.mk) (by simp; exact Gives.mk) (fun _ => by first | exact hg | exact hsm) (by simp) (by simp) ?_ | refine run_callQ hc (by simp; exact Gives.mk) (by simp; exact Gives.mk) (by simp; exact Gives.mk) (by simp; exact Gives.mk) (by simp; exact Gives.mk) (fun _ => by first | exact hg | exact hsm) (by simp) (by simp) ?_ | refine run_ops hc (by simp; first | exact Ends.go | exact Ends.halt) (by decide) (by first | exact True.intro | omega | (simp; done) | (simp; omega) | (simp at *; omega)) ?_ | refine run_quiet hc (by simp; first | exact Ends.go | exact Ends.halt) (by decide) (by first | exact True.intro | omega | (simp; done) | (simp; omega) | (simp at *; omega)) ?_ | refine run_regionW hc (by simp; exact Ends.halt) (by first | exact True.intro | omega | (simp; done) | (simp; omega) | (simp at *; omega)) ?_ | refine run_drawN hc (by kernel_rfl) (by decide) (by kernel_rfl) (by simp; exact Ends.halt) (by first | exact True.intro | omega | (simp; done) | (simp; omega) | (simp at *; omega)) ?_ | fail))
        (refine run_leaveM [100000] hc (le_end rfl) (by simp; exact Gives.mk) (by simp; exact Gives.mk) (by first | (simp; done) | (simp; omega)) ?_)
        (first | (simp; done) | (simp; omega))
    · rw [if_neg hb]
      have hg := has_ok l [62] b (by omega) hm
      rw [pre_one] at hg
      repeat' (first | (first | refine ewp_seq ?_ | refine run_region hc (by simp; exact Ends.go) (by first | exact True.intro | omega | (simp; done) | (simp; omega) | (simp at *; omega)) ?_ | refine run_draw hc (by kernel_rfl) (by kernel_rfl) (by simp; exact Ends.go) (by first | exact True.intro | omega | (simp; done) | (simp; omega) | (simp at *; omega)) ?_ | refine ewp_scope ?_ | refine scopeQ_normal ?_ | refine scopeQ_ret ?_ | refine scopeQ_exit ?_ | refine ewp_skip ?_ | refine ewp_block ?_ | refine ewp_exit ?_ | refine ewp_label ?_ | refine thenQ_normal ?_ | refine thenQ_ret ?_ | refine thenQ_exit ?_ | refine blockQ_normal ?_ | refine blockQ_ret ?_ | refine blockQ_here ?_ | refine blockQ_there (by decide) ?_ | refine ewp_ret ?_ | refine opsW_nil ?_ | refine quietW_nil ?_ | (refine run_cond (by simp; exact Gives.mk) (fun hb => ?_) (fun hb => ?_) <;> (try simp at hb)) | fail) | (first | refine run_callW hc (by simp; exact Gives.mk) (by simp; exact Gives.mk) (by simp; exact Gives.mk) (by simp; exact Gives.mk) (by simp; exact Gives.mk) (fun _ => by first | exact hg | exact hsm) (by simp) (by simp) ?_ | refine run_callQ hc (by simp; exact Gives.mk) (by simp; exact Gives.mk) (by simp; exact Gives.mk) (by simp; exact Gives.mk) (by simp; exact Gives.mk) (fun _ => by first | exact hg | exact hsm) (by simp) (by simp) ?_ | refine run_ops hc (by simp; first | exact Ends.go | exact Ends.halt) (by decide) (by first | exact True.intro | omega | (simp; done) | (simp; omega) | (simp at *; omega)) ?_ | refine run_quiet hc (by simp; first | exact Ends.go | exact Ends.halt) (by decide) (by first | exact True.intro | omega | (simp; done) | (simp; omega) | (simp at *; omega)) ?_ | refine run_regionW hc (by simp; exact Ends.halt) (by first | exact True.intro | omega | (simp; done) | (simp; omega) | (simp at *; omega)) ?_ | refine run_drawN hc (by kernel_rfl) (by decide) (by kernel_rfl) (by simp; exact Ends.halt) (by first | exact True.intro | omega | (simp; done) | (simp; omega) | (simp at *; omega)) ?_ | fail))
      · rw [if_neg hb]
        (refine run_leaveM [100000] hc (le_end rfl) (by simp; exact Gives.mk) (by simp; exact Gives.mk) (by first | (simp; done) | (simp; omega)) ?_)
        (first | (simp; done) | (simp; omega))
      · rw [if_pos hb]
        have hbl : b < l.length := (List.getElem?_eq_some_iff.1 hb).1
        repeat' (first | (first | refine ewp_seq ?_ | refine run_region hc (by simp; exact Ends.go) (by first | exact True.intro | omega | (simp; done) | (simp; omega) | (simp at *; omega)) ?_ | refine run_draw hc (by kernel_rfl) (by kernel_rfl) (by simp; exact Ends.go) (by first | exact True.intro | omega | (simp; done) | (simp; omega) | (simp at *; omega)) ?_ | refine ewp_scope ?_ | refine scopeQ_normal ?_ | refine scopeQ_ret ?_ | refine scopeQ_exit ?_ | refine ewp_skip ?_ | refine ewp_block ?_ | refine ewp_exit ?_ | refine ewp_label ?_ | refine thenQ_normal ?_ | refine thenQ_ret ?_ | refine thenQ_exit ?_ | refine blockQ_normal ?_ | refine blockQ_ret ?_ | refine blockQ_here ?_ | refine blockQ_there (by decide) ?_ | refine ewp_ret ?_ | refine opsW_nil ?_ | refine quietW_nil ?_ | (refine run_cond (by simp; exact Gives.mk) (fun hb => ?_) (fun hb => ?_) <;> (try simp at hb)) | fail) | (first | refine run_callW hc (by simp; exact Gives.mk) (by simp; exact Gives.mk) (by simp; exact Gives.mk) (by simp; exact Gives.mk) (by simp; exact Gives.mk) (fun _ => by first | exact hg | exact hsm) (by simp) (by simp) ?_ | refine run_callQ hc (by simp; exact Gives.mk) (by simp; exact Gives.mk) (by simp; exact Gives.mk) (by simp; exact Gives.mk) (by simp; exact Gives.mk) (fun _ => by first | exact hg | exact hsm) (by simp) (by simp) ?_ | refine run_ops hc (by simp; first | exact Ends.go | exact Ends.halt) (by decide) (by first | exact True.intro | omega | (simp; done) | (simp; omega) | (simp at *; omega)) ?_ | refine run_quiet hc (by simp; first | exact Ends.go | exact Ends.halt) (by decide) (by first | exact True.intro | omega | (simp; done) | (simp; omega) | (simp at *; omega)) ?_ | refine run_regionW hc (by simp; exact Ends.halt) (by first | exact True.intro | omega | (simp; done) | (simp; omega) | (simp at *; omega)) ?_ | refine run_drawN hc (by kernel_rfl) (by decide) (by kernel_rfl) (by simp; exact Ends.halt) (by first | exact True.intro | omega | (simp; done) | (simp; omega) | (simp at *; omega)) ?_ | fail))
        (refine run_leaveM [100000] hc (le_end rfl) (by simp; exact Gives.mk) (by simp; exact Gives.mk) (by first | (simp; done) | (simp; omega)) ?_)
        (first | (simp; done) | (simp; omega))
  · have hal2 := hal.2.2 hb
    refine ⟨(q, m ++ [t]), ⟨by simp; omega, by simp; omega, ?_⟩, by simp; omega, run_back [0, 5, 6] [100000, 40000] (by simp; exact Gives.mk) (by simp; exact Gives.mk) (by simp)⟩
    rw [h6, hyes hb]
    simp

/-! Tokens. -/
structure Tk where
  kind : Nat
  fr : Nat
  to : Nat
  name : Bs
  atts : List Atr
abbrev Tk.none : Tk := ⟨0, 0, 0, [], []⟩
@[simp] def attD (t : Tk) : D := if t.kind = 2 then attSl t.atts else nilSl
abbrev encT (t : Tk) : List D := [int t.kind, int t.fr, int t.to, str t.name, attD t]
def tok (l : Bs) (i : Nat) : Option Tk :=
  match cmt l i with
  | some j => some ⟨4, i, j, [], []⟩
  | none => match (shut l i).1 with
    | some r => some ⟨3, i, r.2, r.1, []⟩
    | none => match (opn l i).1 with
      | some r => some ⟨2, i, r.2.2, r.1, r.2.1⟩
      | none => none
@[simp] def tokD : Option Tk → D
  | some t => .tup [.agg (encT t), tru true]
  | none => .tup [.agg (encT .none), tru false]
theorem shut_le {l : Bs} {i : Nat} (hi : i ≤ l.length) : (shut l i).2 ≤ l.length ∧ ∀ r, (shut l i).1 = some r → (shut l i).2 = r.2 ∧ i + 3 < r.2 := by
  unfold shut
  split
  · rename_i h1
    have hl := pre_len hi h1
    simp only [List.length_cons, List.length_nil] at hl
    have h2 := nm_ge inTagB l (i + 2)
    have h3 := nm_le inTagB l (i + 2) (by omega)
    generalize nm inTagB l (i + 2) = e at h2 h3 ⊢
    have h4 := skip_ge isBl l e
    have h5 := skip_le isBl l e h3
    generalize skip isBl l e = b at h4 h5 ⊢
    split
    · rename_i h6
      have h7 : b < l.length := (List.getElem?_eq_some_iff.1 h6.2).1
      refine ⟨by simp; omega, fun r hr => ?_⟩
      obtain rfl := Option.some.inj hr
      simp; omega
    · exact ⟨by simp; omega, fun r hr => by cases hr⟩
  · exact ⟨hi, fun r hr => by cases hr⟩
theorem opn_le {l : Bs} {i : Nat} (hi : i ≤ l.length) : (opn l i).2 ≤ l.length ∧ ∀ r, (opn l i).1 = some r → (opn l i).2 = r.2.2 ∧ i + 2 < r.2.2 ∧ (∀ a ∈ r.2.1, i ≤ a.fr ∧ a.fr ≤ a.to ∧ a.to ≤ r.2.2 ∧ (a.has = false → a.fr = a.to)) ∧ r.2.1.length ≤ l.length := by
  unfold opn
  split
  · rename_i h1
    have hlt : i < l.length := (List.getElem?_eq_some_iff.1 h1).1
    have h2 := nm_ge inTagB l (i + 1)
    have h3 := nm_le inTagB l (i + 1) (by omega)
    generalize nm inTagB l (i + 1) = e at h2 h3 ⊢
    split
    · exact ⟨by simp; omega, fun r hr => by cases hr⟩
    · obtain ⟨h4, h5, h6, h6'⟩ := atts_le l e h3
      generalize atts l e = q at h4 h5 h6 h6' ⊢
      have h7 := skip_ge isBl l q.2
      have h8 := skip_le isBl l q.2 h5
      simp only
      generalize skip isBl l q.2 = b at h7 h8 ⊢
      have h9 : b ≤ (if l[b]? = some 47 then b + 1 else b) ∧ (if l[b]? = some 47 then b + 1 else b) ≤ l.length := by
        split
        · rename_i h; have := (List.getElem?_eq_some_iff.1 h).1; omega
        · omega
      generalize (if l[b]? = some 47 then b + 1 else b) = c at h9 ⊢
      split
      · rename_i h10
        have h11 : c < l.length := (List.getElem?_eq_some_iff.1 h10).1
        refine ⟨by simp; omega, fun r hr => ?_⟩
        obtain rfl := Option.some.inj hr
        refine ⟨rfl, by simp; omega, fun a ha => ?_, by simp; omega⟩
        have := h6 a ha
        exact ⟨by omega, by omega, by simp; omega, this.2.2.2⟩
      · exact ⟨by simp; omega, fun r hr => by cases hr⟩
  · exact ⟨hi, fun r hr => by cases hr⟩
theorem token_ok (l : Bs) (i : Nat) (hi : i ≤ l.length) (hm : l.length ≤ 200000) :
    FnMem Try.prog 57 [.bp 100000 0] (scn l i) (.d (tokD (tok l i))) (scn l (((tok l i).map (·.to)).getD i : Nat)) := by
  refine fnMem Try.func57 rfl (by kernel_rfl) Try.ntmps57 _ rfl (by simp) fun C hc => ?_
  have hc1 := comment_ok l i hi hm
  have hc2 := close_ok l i hi hm
  have hc3 := open_ok l i hi hm
  have hs2 := shut_le (l := l) hi
  have hs3 := opn_le (l := l) hi
  unfold tok
  generalize cmt l i = r at hc1 ⊢
  obtain _ | j := r
  · generalize shut l i = r at hc2 hs2 ⊢
    obtain ⟨_ | r, q⟩ := r
    · generalize opn l i = r at hc3 hs3 ⊢
      obtain ⟨_ | r, q⟩ := r
      · simp only [Option.isSome_none, Option.getD_none, shutD, opnD] at hc1 hc2 hc3 ⊢
        repeat' (first | (first | refine ewp_seq ?_ | refine run_region hc (by simp; exact Ends.go) (by first | exact True.intro | omega | (simp; done) | (simp; omega) | (simp at *; omega)) ?_ | refine run_draw hc (by kernel_rfl) (by kernel_rfl) (by simp; exact Ends.go) (by first | exact True.intro | omega | (simp; done) | (simp; omega) | (simp at *; omega)) ?_ | refine ewp_scope ?_ | refine scopeQ_normal ?_ | refine scopeQ_ret ?_ | refine scopeQ_exit ?_ | refine ewp_skip ?_ | refine ewp_block ?_ | refine ewp_exit ?_ | refine ewp_label ?_ | refine thenQ_normal ?_ | refine thenQ_ret ?_ | refine thenQ_exit ?_ | refine blockQ_normal ?_ | refine blockQ_ret ?_ | refine blockQ_here ?_ | refine blockQ_there (by decide) ?_ | refine ewp_ret ?_ | refine opsW_nil ?_ | refine quietW_nil ?_ | (refine run_cond (by simp; exact Gives.mk) (fun hb => ?_) (fun hb => ?_) <;> (try simp at hb)) | fail) | (first | refine run_callW hc (by simp; exact Gives.mk) (by simp; exact Gives.mk) (by simp; exact Gives.mk) (by simp; exact Gives.mk) (by simp; exact Gives.mk) (fun _ => by first | exact trivial) (by simp) (by simp) ?_ | refine run_callQ hc (by simp; exact Gives.mk) (by simp; exact Gives.mk) (by simp; exact Gives.mk) (by simp; exact Gives.mk) (by simp; exact Gives.mk) (fun _ => by first | exact trivial) (by simp) (by simp) ?_ | refine run_ops hc (by simp; first | exact Ends.go | exact Ends.halt) (by decide) (by first | exact True.intro | omega | (simp; done) | (simp; omega) | (simp at *; omega)) ?_ | refine run_quiet hc (by simp; first | exact Ends.go | exact Ends.halt) (by decide) (by first | exact True.intro | omega | (simp; done) | (simp; omega) | (simp at *; omega)) ?_ | refine run_regionW hc (by simp; exact Ends.halt) (by first | exact True.intro | omega | (simp; done) | (simp; omega) | (simp at *; omega)) ?_ | refine run_drawN hc (by kernel_rfl) (by decide) (by kernel_rfl) (by simp; exact Ends.halt) (by first | exact True.intro | omega | (simp; done) | (simp; omega) | (simp at *; omega)) ?_ | fail) | (first | refine run_callM ([(100000, 100000)]) (hc1) hc (by simp; exact Gives.mk) (by simp; exact Gives.mk) (by simp; exact Gives.mk) (by simp; exact Gives.mk) (by simp; exact Gives.mk) rfl (by simp; exact Gives.mk) (by simp; exact Gives.mk) rfl (by simp) (by simp) (by simp; exact Gives.mk) (by simp; exact Gives.mk) ?_ | fail) | (first | refine run_callM ([(100000, 100000)]) (hc2) hc (by simp; exact Gives.mk) (by simp; exact Gives.mk) (by simp; exact Gives.mk) (by simp; exact Gives.mk) (by simp; exact Gives.mk) rfl (by simp; exact Gives.mk) (by simp; exact Gives.mk) rfl (by simp) (by simp) (by simp; exact Gives.mk) (by simp; exact Gives.mk) ?_ | fail) | (first | refine run_callM ([(100000, 100000)]) (hc3) hc (by simp; exact Gives.mk) (by simp; exact Gives.mk) (by simp; exact Gives.mk) (by simp; exact Gives.mk) (by simp; exact Gives.mk) rfl (by simp; exact Gives.mk) (by simp; exact Gives.mk) rfl (by simp) (by simp) (by simp; exact Gives.mk) (by simp; exact Gives.mk) ?_ | fail))
        all_goals try contradiction
        (refine run_leaveM [100000] hc (le_end rfl) (by simp; exact Gives.mk) (by simp; exact Gives.mk) (by first | (simp; done) | (simp; omega)) ?_)
        (first | (simp; done) | (simp; omega))
      · obtain ⟨h1, h2, _⟩ := hs3.2 r rfl
        simp only at h1
        subst h1
        simp only [Option.isSome_none, Option.getD_none, shutD, opnD] at hc1 hc2 hc3 ⊢
        repeat' (first | (first | refine ewp_seq ?_ | refine run_region hc (by simp; exact Ends.go) (by first | exact True.intro | omega | (simp; done) | (simp; omega) | (simp at *; omega)) ?_ | refine run_draw hc (by kernel_rfl) (by kernel_rfl) (by simp; exact Ends.go) (by first | exact True.intro | omega | (simp; done) | (simp; omega) | (simp at *; omega)) ?_ | refine ewp_scope ?_ | refine scopeQ_normal ?_ | refine scopeQ_ret ?_ | refine scopeQ_exit ?_ | refine ewp_skip ?_ | refine ewp_block ?_ | refine ewp_exit ?_ | refine ewp_label ?_ | refine thenQ_normal ?_ | refine thenQ_ret ?_ | refine thenQ_exit ?_ | refine blockQ_normal ?_ | refine blockQ_ret ?_ | refine blockQ_here ?_ | refine blockQ_there (by decide) ?_ | refine ewp_ret ?_ | refine opsW_nil ?_ | refine quietW_nil ?_ | (refine run_cond (by simp; exact Gives.mk) (fun hb => ?_) (fun hb => ?_) <;> (try simp at hb)) | fail) | (first | refine run_callW hc (by simp; exact Gives.mk) (by simp; exact Gives.mk) (by simp; exact Gives.mk) (by simp; exact Gives.mk) (by simp; exact Gives.mk) (fun _ => by first | exact trivial) (by simp) (by simp) ?_ | refine run_callQ hc (by simp; exact Gives.mk) (by simp; exact Gives.mk) (by simp; exact Gives.mk) (by simp; exact Gives.mk) (by simp; exact Gives.mk) (fun _ => by first | exact trivial) (by simp) (by simp) ?_ | refine run_ops hc (by simp; first | exact Ends.go | exact Ends.halt) (by decide) (by first | exact True.intro | omega | (simp; done) | (simp; omega) | (simp at *; omega)) ?_ | refine run_quiet hc (by simp; first | exact Ends.go | exact Ends.halt) (by decide) (by first | exact True.intro | omega | (simp; done) | (simp; omega) | (simp at *; omega)) ?_ | refine run_regionW hc (by simp; exact Ends.halt) (by first | exact True.intro | omega | (simp; done) | (simp; omega) | (simp at *; omega)) ?_ | refine run_drawN hc (by kernel_rfl) (by decide) (by kernel_rfl) (by simp; exact Ends.halt) (by first | exact True.intro | omega | (simp; done) | (simp; omega) | (simp at *; omega)) ?_ | fail) | (first | refine run_callM ([(100000, 100000)]) (hc1) hc (by simp; exact Gives.mk) (by simp; exact Gives.mk) (by simp; exact Gives.mk) (by simp; exact Gives.mk) (by simp; exact Gives.mk) rfl (by simp; exact Gives.mk) (by simp; exact Gives.mk) rfl (by simp) (by simp) (by simp; exact Gives.mk) (by simp; exact Gives.mk) ?_ | fail) | (first | refine run_callM ([(100000, 100000)]) (hc2) hc (by simp; exact Gives.mk) (by simp; exact Gives.mk) (by simp; exact Gives.mk) (by simp; exact Gives.mk) (by simp; exact Gives.mk) rfl (by simp; exact Gives.mk) (by simp; exact Gives.mk) rfl (by simp) (by simp) (by simp; exact Gives.mk) (by simp; exact Gives.mk) ?_ | fail) | (first | refine run_callM ([(100000, 100000)]) (hc3) hc (by simp; exact Gives.mk) (by simp; exact Gives.mk) (by simp; exact Gives.mk) (by simp; exact Gives.mk) (by simp; exact Gives.mk) rfl (by simp; exact Gives.mk) (by simp; exact Gives.mk) rfl (by simp) (by simp) (by simp; exact Gives.mk) (by simp; exact Gives.mk) ?_ | fail))
        all_goals try contradiction
        (refine run_leaveM [100000] hc (le_end rfl) (by simp; exact Gives.mk) (by simp; exact Gives.mk) (by first | (simp; done) | (simp; omega)) ?_)
        (first | (simp; done) | (simp; omega))
    · obtain ⟨h1, h2⟩ := hs2.2 r rfl
      simp only at h1
      subst h1
      simp only [Option.isSome_none, Option.getD_none, shutD, opnD] at hc1 hc2 ⊢
      repeat' (first | (first | refine ewp_seq ?_ | refine run_region hc (by simp; exact Ends.go) (by first | exact True.intro | omega | (simp; done) | (simp; omega) | (simp at *; omega)) ?_ | refine run_draw hc (by kernel_rfl) (by kernel_rfl) (by simp; exact Ends.go) (by first | exact True.intro | omega | (simp; done) | (simp; omega) | (simp at *; omega)) ?_ | refine ewp_scope ?_ | refine scopeQ_normal ?_ | refine scopeQ_ret ?_ | refine scopeQ_exit ?_ | refine ewp_skip ?_ | refine ewp_block ?_ | refine ewp_exit ?_ | refine ewp_label ?_ | refine thenQ_normal ?_ | refine thenQ_ret ?_ | refine thenQ_exit ?_ | refine blockQ_normal ?_ | refine blockQ_ret ?_ | refine blockQ_here ?_ | refine blockQ_there (by decide) ?_ | refine ewp_ret ?_ | refine opsW_nil ?_ | refine quietW_nil ?_ | (refine run_cond (by simp; exact Gives.mk) (fun hb => ?_) (fun hb => ?_) <;> (try simp at hb)) | fail) | (first | refine run_callW hc (by simp; exact Gives.mk) (by simp; exact Gives.mk) (by simp; exact Gives.mk) (by simp; exact Gives.mk) (by simp; exact Gives.mk) (fun _ => by first | exact trivial) (by simp) (by simp) ?_ | refine run_callQ hc (by simp; exact Gives.mk) (by simp; exact Gives.mk) (by simp; exact Gives.mk) (by simp; exact Gives.mk) (by simp; exact Gives.mk) (fun _ => by first | exact trivial) (by simp) (by simp) ?_ | refine run_ops hc (by simp; first | exact Ends.go | exact Ends.halt) (by decide) (by first | exact True.intro | omega | (simp; done) | (simp; omega) | (simp at *; omega)) ?_ | refine run_quiet hc (by simp; first | exact Ends.go | exact Ends.halt) (by decide) (by first | exact True.intro | omega | (simp; done) | (simp; omega) | (simp at *; omega)) ?_ | refine run_regionW hc (by simp; exact Ends.halt) (by first | exact True.intro | omega | (simp; done) | (simp; omega) | (simp at *; omega)) ?_ | refine run_drawN hc (by kernel_rfl) (by decide) (by kernel_rfl) (by simp; exact Ends.halt) (by first | exact True.intro | omega | (simp; done) | (simp; omega) | (simp at *; omega)) ?_ | fail) | (first | refine run_callM ([(100000, 100000)]) (hc1) hc (by simp; exact Gives.mk) (by simp; exact Gives.mk) (by simp; exact Gives.mk) (by simp; exact Gives.mk) (by simp; exact Gives.mk) rfl (by simp; exact Gives.mk) (by simp; exact Gives.mk) rfl (by simp) (by simp) (by simp; exact Gives.mk) (by simp; exact Gives.mk) ?_ | fail) | (first | refine run_callM ([(100000, 100000)]) (hc2) hc (by simp; exact Gives.mk) (by simp; exact Gives.mk) (by simp; exact Gives.mk) (by simp; exact Gives.mk) (by simp; exact Gives.mk) rfl (by simp; exact Gives.mk) (by simp; exact Gives.mk) rfl (by simp) (by simp) (by simp; exact Gives.mk) (by simp; exact Gives.mk) ?_ | fail))
      all_goals try contradiction
      (refine run_leaveM [100000] hc (le_end rfl) (by simp; exact Gives.mk) (by simp; exact Gives.mk) (by first | (simp; done) | (simp; omega)) ?_)
      (first | (simp; done) | (simp; omega))
  · simp only [Option.isSome_some, Option.getD_some] at hc1 ⊢
    repeat' (first | (first | refine ewp_seq ?_ | refine run_region hc (by simp; exact Ends.go) (by first | exact True.intro | omega | (simp; done) | (simp; omega) | (simp at *; omega)) ?_ | refine run_draw hc (by kernel_rfl) (by kernel_rfl) (by simp; exact Ends.go) (by first | exact True.intro | omega | (simp; done) | (simp; omega) | (simp at *; omega)) ?_ | refine ewp_scope ?_ | refine scopeQ_normal ?_ | refine scopeQ_ret ?_ | refine scopeQ_exit ?_ | refine ewp_skip ?_ | refine ewp_block ?_ | refine ewp_exit ?_ | refine ewp_label ?_ | refine thenQ_normal ?_ | refine thenQ_ret ?_ | refine thenQ_exit ?_ | refine blockQ_normal ?_ | refine blockQ_ret ?_ | refine blockQ_here ?_ | refine blockQ_there (by decide) ?_ | refine ewp_ret ?_ | refine opsW_nil ?_ | refine quietW_nil ?_ | (refine run_cond (by simp; exact Gives.mk) (fun hb => ?_) (fun hb => ?_) <;> (try simp at hb)) | fail) | (first | refine run_callW hc (by simp; exact Gives.mk) (by simp; exact Gives.mk) (by simp; exact Gives.mk) (by simp; exact Gives.mk) (by simp; exact Gives.mk) (fun _ => by first | exact trivial) (by simp) (by simp) ?_ | refine run_callQ hc (by simp; exact Gives.mk) (by simp; exact Gives.mk) (by simp; exact Gives.mk) (by simp; exact Gives.mk) (by simp; exact Gives.mk) (fun _ => by first | exact trivial) (by simp) (by simp) ?_ | refine run_ops hc (by simp; first | exact Ends.go | exact Ends.halt) (by decide) (by first | exact True.intro | omega | (simp; done) | (simp; omega) | (simp at *; omega)) ?_ | refine run_quiet hc (by simp; first | exact Ends.go | exact Ends.halt) (by decide) (by first | exact True.intro | omega | (simp; done) | (simp; omega) | (simp at *; omega)) ?_ | refine run_regionW hc (by simp; exact Ends.halt) (by first | exact True.intro | omega | (simp; done) | (simp; omega) | (simp at *; omega)) ?_ | refine run_drawN hc (by kernel_rfl) (by decide) (by kernel_rfl) (by simp; exact Ends.halt) (by first | exact True.intro | omega | (simp; done) | (simp; omega) | (simp at *; omega)) ?_ | fail) | (first | refine run_callM ([(100000, 100000)]) (hc1) hc (by simp; exact Gives.mk) (by simp; exact Gives.mk) (by simp; exact Gives.mk) (by simp; exact Gives.mk) (by simp; exact Gives.mk) rfl (by simp; exact Gives.mk) (by simp; exact Gives.mk) rfl (by simp) (by simp) (by simp; exact Gives.mk) (by simp; exact Gives.mk) ?_ | fail))
    all_goals try contradiction
    (refine run_leaveM [100000] hc (le_end rfl) (by simp; exact Gives.mk) (by simp; exact Gives.mk) (by first | (simp; done) | (simp; omega)) ?_)
    (first | (simp; done) | (simp; omega))
end Go.Proofs.Ytgebkjngnfdeiaa
