/-
  THE REFERENCE OF CHAPTER 3: attributes, tags. (WITH run_drawN.)
-/
import Derived.Test.YtgebkjngnfdeiaaRfTok
set_option linter.unusedSimpArgs false
set_option linter.unusedVariables false
namespace Go.Proofs.Ytgebkjngnfdeiaa
open Go.Lw
set_option maxRecDepth 100000
set_option maxHeartbeats 1000000

theorem val_in (l : Bs) (i : Nat) (hi : i ≤ l.length) : (val l i).1.1 ≤ (val l i).1.2 ∧ (val l i).1.2 ≤ l.length := by
  have h1 := skip_ge inValB l i
  have h2 := skip_le inValB l i hi
  have h3 := indexByte_lt (l.drop (i + 1)) (l[i]?.getD 0)
  simp only [List.length_drop] at h3
  unfold val
  split
  · rename_i h
    have : i < l.length := by rcases h with h | h <;> exact (List.getElem?_eq_some_iff.1 h).1
    split
    · simp
    · simp; omega
  · split <;> simp <;> omega
/-- An attribute that stands at a letter. -/
def attR (l : Bs) (b : Nat) : Atr × Nat × Bool :=
  if l[nm inNameB l b]? = some 61 then
    (⟨small ((l.take (nm inNameB l b)).drop b), meant ((l.take (val l (nm inNameB l b + 1)).1.2).drop (val l (nm inNameB l b + 1)).1.1), (val l (nm inNameB l b + 1)).1.1, (val l (nm inNameB l b + 1)).1.2, true⟩, (val l (nm inNameB l b + 1)).2.2, (val l (nm inNameB l b + 1)).2.1)
  else (⟨small ((l.take (nm inNameB l b)).drop b), [], nm inNameB l b, nm inNameB l b, false⟩, nm inNameB l b, true)
theorem rAttribute_ok (l : Bs) (i : Nat) (hi : i ≤ l.length) (hm : l.length ≤ 200000) :
    FnOk Try.prog 89 [str l, int i] (.tup [.agg (encA (attR l i).1), int (attR l i).2.1, tru (attR l i).2.2]) := by
  refine fnOk Try.func89 rfl (by kernel_rfl) Try.ntmps89 _ rfl (by simp) fun C hc => ?_
  have h1 := nm_ge inNameB l i
  have h2 := nm_le inNameB l i hi
  have hn := rName_ok l [45, 95, 58] i (by omega) hm
  rw [inB_name] at hn
  unfold attR
  generalize nm inNameB l i = e at h1 h2 hn ⊢
  have hsm := rSmall_ok ((l.take e).drop i) (by simp; omega)
  have hq := stands_ok l 61 [] e (by omega) hm
  rw [pre_one] at hq
  repeat' (first | (first | refine ewp_seq ?_ | refine run_region hc (by simp; exact Ends.go) (by first | exact True.intro | omega | (simp; done) | (simp; omega) | (simp at *; omega)) ?_ | refine run_draw hc (by kernel_rfl) (by kernel_rfl) (by simp; exact Ends.go) (by first | exact True.intro | omega | (simp; done) | (simp; omega) | (simp at *; omega)) ?_ | refine ewp_scope ?_ | refine scopeQ_normal ?_ | refine scopeQ_ret ?_ | refine scopeQ_exit ?_ | refine ewp_skip ?_ | refine ewp_block ?_ | refine ewp_exit ?_ | refine ewp_label ?_ | refine thenQ_normal ?_ | refine thenQ_ret ?_ | refine thenQ_exit ?_ | refine blockQ_normal ?_ | refine blockQ_ret ?_ | refine blockQ_here ?_ | refine blockQ_there (by decide) ?_ | refine ewp_ret ?_ | refine opsW_nil ?_ | refine quietW_nil ?_ | (refine run_cond (by simp; exact Gives.mk) (fun hb => ?_) (fun hb => ?_) <;> (try simp at hb)) | fail) | (first | refine run_callW hc (by simp; exact Gives.mk) (by simp; exact Gives.mk) (by simp; exact Gives.mk) (by simp; exact Gives.mk) (by simp; exact Gives.mk) (fun _ => by first | exact hn | exact hsm | exact hq) (by simp) (by simp) ?_ | refine run_callQ hc (by simp; exact Gives.mk) (by simp; exact Gives.mk) (by simp; exact Gives.mk) (by simp; exact Gives.mk) (by simp; exact Gives.mk) (fun _ => by first | exact hn | exact hsm | exact hq) (by simp) (by simp) ?_ | refine run_ops hc (by simp; first | exact Ends.go | exact Ends.halt) (by decide) (by first | exact True.intro | omega | (simp; done) | (simp; omega) | (simp at *; omega)) ?_ | refine run_quiet hc (by simp; first | exact Ends.go | exact Ends.halt) (by decide) (by first | exact True.intro | omega | (simp; done) | (simp; omega) | (simp at *; omega)) ?_ | refine run_regionW hc (by simp; exact Ends.halt) (by first | exact True.intro | omega | (simp; done) | (simp; omega) | (simp at *; omega)) ?_ | refine run_drawN hc (by kernel_rfl) (by decide) (by kernel_rfl) (by simp; exact Ends.halt) (by first | exact True.intro | omega | (simp; done) | (simp; omega) | (simp at *; omega)) ?_ | fail))
  · rw [if_neg hb]
    (refine run_leave hc (by simp; exact Gives.mk) ?_)
    (first | (simp; done) | (simp; omega))
  · have hlt : e < l.length := (List.getElem?_eq_some_iff.1 hb).1
    rw [if_pos hb]
    have hv := rValue_ok l (e + 1) (by omega) hm
    have hle := val_in l (e + 1) (by omega)
    generalize val l (e + 1) = v at hv hle ⊢
    obtain ⟨⟨f, t⟩, o, q⟩ := v
    simp only at hv hle ⊢
    have hmt := rMeant_ok ((l.take t).drop f) (by simp; omega)
    repeat' (first | (first | refine ewp_seq ?_ | refine run_region hc (by simp; exact Ends.go) (by first | exact True.intro | omega | (simp; done) | (simp; omega) | (simp at *; omega)) ?_ | refine run_draw hc (by kernel_rfl) (by kernel_rfl) (by simp; exact Ends.go) (by first | exact True.intro | omega | (simp; done) | (simp; omega) | (simp at *; omega)) ?_ | refine ewp_scope ?_ | refine scopeQ_normal ?_ | refine scopeQ_ret ?_ | refine scopeQ_exit ?_ | refine ewp_skip ?_ | refine ewp_block ?_ | refine ewp_exit ?_ | refine ewp_label ?_ | refine thenQ_normal ?_ | refine thenQ_ret ?_ | refine thenQ_exit ?_ | refine blockQ_normal ?_ | refine blockQ_ret ?_ | refine blockQ_here ?_ | refine blockQ_there (by decide) ?_ | refine ewp_ret ?_ | refine opsW_nil ?_ | refine quietW_nil ?_ | (refine run_cond (by simp; exact Gives.mk) (fun hb => ?_) (fun hb => ?_) <;> (try simp at hb)) | fail) | (first | refine run_callW hc (by simp; exact Gives.mk) (by simp; exact Gives.mk) (by simp; exact Gives.mk) (by simp; exact Gives.mk) (by simp; exact Gives.mk) (fun _ => by first | exact hv | exact hmt) (by simp) (by simp) ?_ | refine run_callQ hc (by simp; exact Gives.mk) (by simp; exact Gives.mk) (by simp; exact Gives.mk) (by simp; exact Gives.mk) (by simp; exact Gives.mk) (fun _ => by first | exact hv | exact hmt) (by simp) (by simp) ?_ | refine run_ops hc (by simp; first | exact Ends.go | exact Ends.halt) (by decide) (by first | exact True.intro | omega | (simp; done) | (simp; omega) | (simp at *; omega)) ?_ | refine run_quiet hc (by simp; first | exact Ends.go | exact Ends.halt) (by decide) (by first | exact True.intro | omega | (simp; done) | (simp; omega) | (simp at *; omega)) ?_ | refine run_regionW hc (by simp; exact Ends.halt) (by first | exact True.intro | omega | (simp; done) | (simp; omega) | (simp at *; omega)) ?_ | refine run_drawN hc (by kernel_rfl) (by decide) (by kernel_rfl) (by simp; exact Ends.halt) (by first | exact True.intro | omega | (simp; done) | (simp; omega) | (simp at *; omega)) ?_ | fail))
    (refine run_leave hc (by simp; exact Gives.mk) ?_)
    (first | (simp; done) | (simp; omega))
theorem att_yes {l : Bs} {i : Nat} (h1 : i < skip isBl l i) (h2 : skip isBl l i < l.length) (h3 : isLet (l[skip isBl l i]?.getD 0) = true) :
    (att l i).2.1 = (attR l (skip isBl l i)).2.2 ∧ ((att l i).2.1 = true → att l i = ((attR l (skip isBl l i)).1, true, (attR l (skip isBl l i)).2.1)) := by
  unfold att attR
  generalize skip isBl l i = b at h1 h2 h3 ⊢
  have h4 : nm inNameB l b ≠ b := by
    unfold nm
    rw [if_pos ⟨h2, h3⟩, skip_step inNameB l b h2]
    have := skip_ge inNameB l (b + 1)
    rw [if_pos (by simp [inNameB, inTagB, h3])]
    omega
  rw [if_neg (by omega), if_neg h4]
  split
  · split
    · rename_i h; simp [h]
    · rename_i h; simp [h]
  · simp
theorem att_no {l : Bs} {i : Nat} (h : ¬ (i < skip isBl l i ∧ skip isBl l i < l.length ∧ isLet (l[skip isBl l i]?.getD 0) = true)) : (att l i).2.1 = false := by
  have h1 := skip_ge isBl l i
  unfold att
  generalize skip isBl l i = b at h h1 ⊢
  split
  · rfl
  · rw [if_pos (by unfold nm; rw [if_neg (fun h2 => h ⟨by omega, h2⟩)])]

/-! The beginning of a tag. -/
def opR (l : Bs) (i : Nat) : Tk × Bool :=
  if l[i]? = some 60 ∧ nm inTagB l (i + 1) ≠ i + 1 then
    let r := atts l (nm inTagB l (i + 1))
    let b := skip isBl l r.2
    if r.2 < b ∧ b < l.length ∧ isLet (l[b]?.getD 0) = true then (.none, false)
    else
      let c := if l[b]? = some 47 then b + 1 else b
      (⟨2, i, c + 1, small ((l.take (nm inTagB l (i + 1))).drop (i + 1)), r.1⟩, decide (l[c]? = some 62))
  else (.none, false)
theorem opR_spec (l : Bs) (i : Nat) : (opR l i).2 = (opn l i).1.isSome ∧ ∀ r, (opn l i).1 = some r → (opR l i).1 = ⟨2, i, r.2.2, r.1, r.2.1⟩ := by
  unfold opR opn
  by_cases h1 : l[i]? = some 60
  rotate_left
  · rw [if_neg (fun h => h1 h.1), if_neg h1]; exact ⟨rfl, fun r h => by cases h⟩
  rw [if_pos h1]
  by_cases h2 : nm inTagB l (i + 1) = i + 1
  · rw [if_neg (fun h => h.2 h2), if_pos h2]; exact ⟨rfl, fun r h => by cases h⟩
  rw [if_pos ⟨h1, h2⟩, if_neg h2]
  generalize atts l (nm inTagB l (i + 1)) = r
  simp only
  generalize skip isBl l r.2 = b
  by_cases h3 : r.2 < b ∧ b < l.length ∧ isLet (l[b]?.getD 0) = true
  · rw [if_pos h3]
    have hn : ∀ c : UInt8, isLet c = false → ¬ l[b]? = some c := fun c hc h => by
      rw [h] at h3
      rw [Option.getD_some, hc] at h3
      cases h3.2.2
    rw [if_neg (hn 47 (by decide)), if_neg (hn 62 (by decide))]
    exact ⟨rfl, fun r h => by cases h⟩
  · rw [if_neg h3]
    generalize (if l[b]? = some 47 then b + 1 else b) = c
    split
    · rename_i h4
      exact ⟨by simp [h4], fun r h => by cases h; rfl⟩
    · rename_i h4
      exact ⟨by simp [h4], fun r h => by cases h⟩
theorem rOpened_ok (l : Bs) (i : Nat) (hi : i ≤ l.length) (hm : l.length ≤ 200000) :
    FnOk Try.prog 75 [str l, int i] (.tup [.agg (encT (opR l i).1), tru (opR l i).2]) := by
  refine fnOk Try.func75 rfl (by kernel_rfl) Try.ntmps75 _ rfl (by simp) fun C hc => ?_
  have hh := stands_ok l 60 [] i (by omega) hm
  rw [pre_one] at hh
  have hn := rName_ok l [45] (i + 1) (by omega) hm
  rw [inB_tag] at hn
  have h2 := nm_ge inTagB l (i + 1)
  unfold opR
  by_cases h0 : l[i]? = some 60 ∧ nm inTagB l (i + 1) ≠ i + 1
  rotate_left
  · rw [if_neg h0]
    generalize nm inTagB l (i + 1) = e at hn h0 h2 ⊢
    repeat' (first | (first | refine ewp_seq ?_ | refine run_region hc (by simp; exact Ends.go) (by first | exact True.intro | omega | (simp; done) | (simp; omega) | (simp at *; omega)) ?_ | refine run_draw hc (by kernel_rfl) (by kernel_rfl) (by simp; exact Ends.go) (by first | exact True.intro | omega | (simp; done) | (simp; omega) | (simp at *; omega)) ?_ | refine ewp_scope ?_ | refine scopeQ_normal ?_ | refine scopeQ_ret ?_ | refine scopeQ_exit ?_ | refine ewp_skip ?_ | refine ewp_block ?_ | refine ewp_exit ?_ | refine ewp_label ?_ | refine thenQ_normal ?_ | refine thenQ_ret ?_ | refine thenQ_exit ?_ | refine blockQ_normal ?_ | refine blockQ_ret ?_ | refine blockQ_here ?_ | refine blockQ_there (by decide) ?_ | refine ewp_ret ?_ | refine opsW_nil ?_ | refine quietW_nil ?_ | (refine run_cond (by simp; exact Gives.mk) (fun hb => ?_) (fun hb => ?_) <;> (try simp at hb)) | fail) | (first | refine run_callW hc (by simp; exact Gives.mk) (by simp; exact Gives.mk) (by simp; exact Gives.mk) (by simp; exact Gives.mk) (by simp; exact Gives.mk) (fun _ => by first | exact hh | exact hn) (by simp) (by simp) ?_ | refine run_callQ hc (by simp; exact Gives.mk) (by simp; exact Gives.mk) (by simp; exact Gives.mk) (by simp; exact Gives.mk) (by simp; exact Gives.mk) (fun _ => by first | exact hh | exact hn) (by simp) (by simp) ?_ | refine run_ops hc (by simp; first | exact Ends.go | exact Ends.halt) (by decide) (by first | exact True.intro | omega | (simp; done) | (simp; omega) | (simp at *; omega)) ?_ | refine run_quiet hc (by simp; first | exact Ends.go | exact Ends.halt) (by decide) (by first | exact True.intro | omega | (simp; done) | (simp; omega) | (simp at *; omega)) ?_ | refine run_regionW hc (by simp; exact Ends.halt) (by first | exact True.intro | omega | (simp; done) | (simp; omega) | (simp at *; omega)) ?_ | refine run_drawN hc (by kernel_rfl) (by decide) (by kernel_rfl) (by simp; exact Ends.halt) (by first | exact True.intro | omega | (simp; done) | (simp; omega) | (simp at *; omega)) ?_ | fail))
    · (refine run_leave hc (by simp; exact Gives.mk) ?_)
      (first | (simp; done) | (simp; omega))
    · exfalso
      exact h0 ⟨hb.1, by omega⟩
  rw [if_pos h0]
  have hlt : i < l.length := (List.getElem?_eq_some_iff.1 h0.1).1
  have h3 := nm_le inTagB l (i + 1) (by omega)
  obtain ⟨h0, h1⟩ := h0
  rw [decide_eq_true h0] at hh
  generalize nm inTagB l (i + 1) = e at h1 h2 h3 hn ⊢
  have hsm := rSmall_ok ((l.take e).drop (i + 1)) (by simp; omega)
  repeat' (first | (first | refine ewp_seq ?_ | refine run_region hc (by simp; exact Ends.go) (by first | exact True.intro | omega | (simp; done) | (simp; omega) | (simp at *; omega)) ?_ | refine run_draw hc (by kernel_rfl) (by kernel_rfl) (by simp; exact Ends.go) (by first | exact True.intro | omega | (simp; done) | (simp; omega) | (simp at *; omega)) ?_ | refine ewp_scope ?_ | refine scopeQ_normal ?_ | refine scopeQ_ret ?_ | refine scopeQ_exit ?_ | refine ewp_skip ?_ | refine ewp_block ?_ | refine ewp_exit ?_ | refine ewp_label ?_ | refine thenQ_normal ?_ | refine thenQ_ret ?_ | refine thenQ_exit ?_ | refine blockQ_normal ?_ | refine blockQ_ret ?_ | refine blockQ_here ?_ | refine blockQ_there (by decide) ?_ | refine ewp_ret ?_ | refine opsW_nil ?_ | refine quietW_nil ?_ | (refine run_cond (by simp; exact Gives.mk) (fun hb => ?_) (fun hb => ?_) <;> (try simp at hb)) | fail) | (first | refine run_callW hc (by simp; exact Gives.mk) (by simp; exact Gives.mk) (by simp; exact Gives.mk) (by simp; exact Gives.mk) (by simp; exact Gives.mk) (fun _ => by first | exact hh | exact hn | exact hsm) (by simp) (by simp) ?_ | refine run_callQ hc (by simp; exact Gives.mk) (by simp; exact Gives.mk) (by simp; exact Gives.mk) (by simp; exact Gives.mk) (by simp; exact Gives.mk) (fun _ => by first | exact hh | exact hn | exact hsm) (by simp) (by simp) ?_ | refine run_ops hc (by simp; first | exact Ends.go | exact Ends.halt) (by decide) (by first | exact True.intro | omega | (simp; done) | (simp; omega) | (simp at *; omega)) ?_ | refine run_quiet hc (by simp; first | exact Ends.go | exact Ends.halt) (by decide) (by first | exact True.intro | omega | (simp; done) | (simp; omega) | (simp at *; omega)) ?_ | refine run_regionW hc (by simp; exact Ends.halt) (by first | exact True.intro | omega | (simp; done) | (simp; omega) | (simp at *; omega)) ?_ | refine run_drawN hc (by kernel_rfl) (by decide) (by kernel_rfl) (by simp; exact Ends.halt) (by first | exact True.intro | omega | (simp; done) | (simp; omega) | (simp at *; omega)) ?_ | fail))
  · exfalso; omega
  refine ewp_loop (fun x : Nat × List Atr => ⟨[(0, .d (str l)), (1, .d (int i)), (4, .bp 4 0), (5, .d (tru false)), (6, .d (int x.1)), (7, .bp 7 0)], [(4, .box 36 [.d (int 0), .d (int 0), .d (int 0), .d (str []), .d nilSl]), (7, .box 36 [.d (int 2), .d (int 0), .d (int 0), .d (str (small ((l.take e).drop (i + 1)))), .os 40000 x.2.length]), (40000, .own 38 5 (true, encA .none) (x.2.map encA))]⟩) (fun x => e ≤ x.1 ∧ x.1 ≤ l.length ∧ atts l e = (x.2 ++ (atts l x.1).1, (atts l x.1).2)) (fun x => l.length - x.1) (e, []) (by simp; omega) (run_keepB [(7, some 4, 40000, 38, encA .none)] [0, 1, 4, 5, 6, 7] [4, 7, 40000] (by simp; exact Gives.mk) (by simp; exact Gives.mk) (by simp; exact Gives.mk)) ?_
  rintro ⟨j, m⟩ ⟨h4, h5, h6⟩
  simp only at h4 h5 h6 ⊢
  have hal := att_le l j h5
  have hyes := fun h => atts_yes (l := l) h5 h
  have hno := fun h => atts_no (l := l) (i := j) h
  have hml : m.length ≤ 200000 := by
    have hle := atts_le l e h3
    rw [h6] at hle
    simp only [List.length_append] at hle
    omega
  have hay := att_yes (l := l) (i := j)
  have han := att_no (l := l) (i := j)
  have hbl := rBlanks_ok l j (by omega) hm
  have h7 := skip_ge isBl l j
  have h8 := skip_le isBl l j h5
  have hskip : ∀ r, atts l e = (m, j) → r = atts l e → skip isBl l r.2 = skip isBl l j := fun r h1 h2 => by rw [h2, h1]
  generalize hbe : skip isBl l j = b at hay han hbl h7 h8 hskip
  have hat := rAttribute_ok l b h8 hm
  generalize attR l b = t at hat hay
  obtain ⟨t, q, o⟩ := t
  simp only at hat hay
  repeat' (first | (first | refine ewp_seq ?_ | refine run_region hc (by simp; exact Ends.go) (by first | exact True.intro | omega | (simp; done) | (simp; omega) | (simp at *; omega)) ?_ | refine run_draw hc (by kernel_rfl) (by kernel_rfl) (by simp; exact Ends.go) (by first | exact True.intro | omega | (simp; done) | (simp; omega) | (simp at *; omega)) ?_ | refine ewp_scope ?_ | refine scopeQ_normal ?_ | refine scopeQ_ret ?_ | refine scopeQ_exit ?_ | refine ewp_skip ?_ | refine ewp_block ?_ | refine ewp_exit ?_ | refine ewp_label ?_ | refine thenQ_normal ?_ | refine thenQ_ret ?_ | refine thenQ_exit ?_ | refine blockQ_normal ?_ | refine blockQ_ret ?_ | refine blockQ_here ?_ | refine blockQ_there (by decide) ?_ | refine ewp_ret ?_ | refine opsW_nil ?_ | refine quietW_nil ?_ | (refine run_cond (by simp; exact Gives.mk) (fun hb => ?_) (fun hb => ?_) <;> (try simp at hb)) | fail) | (first | refine run_callW hc (by simp; exact Gives.mk) (by simp; exact Gives.mk) (by simp; exact Gives.mk) (by simp; exact Gives.mk) (by simp; exact Gives.mk) (fun _ => by first | exact hbl | exact rLetter_ok _) (by simp) (by simp) ?_ | refine run_callQ hc (by simp; exact Gives.mk) (by simp; exact Gives.mk) (by simp; exact Gives.mk) (by simp; exact Gives.mk) (by simp; exact Gives.mk) (fun _ => by first | exact hbl | exact rLetter_ok _) (by simp) (by simp) ?_ | refine run_ops hc (by simp; first | exact Ends.go | exact Ends.halt) (by decide) (by first | exact True.intro | omega | (simp; done) | (simp; omega) | (simp at *; omega)) ?_ | refine run_quiet hc (by simp; first | exact Ends.go | exact Ends.halt) (by decide) (by first | exact True.intro | omega | (simp; done) | (simp; omega) | (simp at *; omega)) ?_ | refine run_regionW hc (by simp; exact Ends.halt) (by first | exact True.intro | omega | (simp; done) | (simp; omega) | (simp at *; omega)) ?_ | refine run_drawN hc (by kernel_rfl) (by decide) (by kernel_rfl) (by simp; exact Ends.halt) (by first | exact True.intro | omega | (simp; done) | (simp; omega) | (simp at *; omega)) ?_ | fail))
  · have hc1 : j < b ∧ b < l.length ∧ isLet (l[b]?.getD 0) = true := ⟨by omega, by omega, hb.2⟩
    obtain ⟨ha1, ha2⟩ := hay hc1.1 hc1.2.1 hc1.2.2
    repeat' (first | (first | refine ewp_seq ?_ | refine run_region hc (by simp; exact Ends.go) (by first | exact True.intro | omega | (simp; done) | (simp; omega) | (simp at *; omega)) ?_ | refine run_draw hc (by kernel_rfl) (by kernel_rfl) (by simp; exact Ends.go) (by first | exact True.intro | omega | (simp; done) | (simp; omega) | (simp at *; omega)) ?_ | refine ewp_scope ?_ | refine scopeQ_normal ?_ | refine scopeQ_ret ?_ | refine scopeQ_exit ?_ | refine ewp_skip ?_ | refine ewp_block ?_ | refine ewp_exit ?_ | refine ewp_label ?_ | refine thenQ_normal ?_ | refine thenQ_ret ?_ | refine thenQ_exit ?_ | refine blockQ_normal ?_ | refine blockQ_ret ?_ | refine blockQ_here ?_ | refine blockQ_there (by decide) ?_ | refine ewp_ret ?_ | refine opsW_nil ?_ | refine quietW_nil ?_ | (refine run_cond (by simp; exact Gives.mk) (fun hb => ?_) (fun hb => ?_) <;> (try simp at hb)) | fail) | (first | refine run_callW hc (by simp; exact Gives.mk) (by simp; exact Gives.mk) (by simp; exact Gives.mk) (by simp; exact Gives.mk) (by simp; exact Gives.mk) (fun _ => by first | exact hat) (by simp) (by simp) ?_ | refine run_callQ hc (by simp; exact Gives.mk) (by simp; exact Gives.mk) (by simp; exact Gives.mk) (by simp; exact Gives.mk) (by simp; exact Gives.mk) (fun _ => by first | exact hat) (by simp) (by simp) ?_ | refine run_ops hc (by simp; first | exact Ends.go | exact Ends.halt) (by decide) (by first | exact True.intro | omega | (simp; done) | (simp; omega) | (simp at *; omega)) ?_ | refine run_quiet hc (by simp; first | exact Ends.go | exact Ends.halt) (by decide) (by first | exact True.intro | omega | (simp; done) | (simp; omega) | (simp at *; omega)) ?_ | refine run_regionW hc (by simp; exact Ends.halt) (by first | exact True.intro | omega | (simp; done) | (simp; omega) | (simp at *; omega)) ?_ | refine run_drawN hc (by kernel_rfl) (by decide) (by kernel_rfl) (by simp; exact Ends.halt) (by first | exact True.intro | omega | (simp; done) | (simp; omega) | (simp at *; omega)) ?_ | fail))
    · have e1 : atts l e = (m, j) := by rw [h6, hno (by rw [ha1]; exact hb)]; simp
      rw [e1]
      simp only [hbe]
      rw [if_pos hc1]
      (refine run_leave hc (by simp; exact Gives.mk) ?_)
      (first | (simp; done) | (simp; omega))
    · have ha3 := ha2 (by rw [ha1]; exact hb)
      rw [ha3] at hal hyes
      have hal2 := hal.2.2 rfl
      have hy2 := hyes rfl
      simp only at hal hal2 hy2
      exact ⟨(q, m ++ [t]), ⟨by simp; omega, by simp; omega, by rw [h6, hy2]; simp⟩, by simp; omega, run_back [0, 1, 4, 5, 6, 7] [4, 7, 40000] (by simp; exact Gives.mk) (by simp; exact Gives.mk) (by simp)⟩
  · have hc1 : ¬ (j < b ∧ b < l.length ∧ isLet (l[b]?.getD 0) = true) := fun h => by
      have := hb h.2.1 h.1
      rw [h.2.2] at this; cases this
    have e1 : atts l e = (m, j) := by rw [h6, hno (han hc1)]; simp
    rw [e1]
    simp only [hbe]
    rw [if_neg hc1]
    have hs1 := stands_ok l 47 [] b (by omega) hm
    rw [pre_one] at hs1
    (first | refine run_sealW 40000 hc (by simp; exact Gives.mk) (by simp) ?_ | refine run_seal 40000 hc (by simp; exact Gives.mk) (by simp) ?_)
    repeat' (first | (first | refine ewp_seq ?_ | refine run_region hc (by simp; exact Ends.go) (by first | exact True.intro | omega | (simp; done) | (simp; omega) | (simp at *; omega)) ?_ | refine run_draw hc (by kernel_rfl) (by kernel_rfl) (by simp; exact Ends.go) (by first | exact True.intro | omega | (simp; done) | (simp; omega) | (simp at *; omega)) ?_ | refine ewp_scope ?_ | refine scopeQ_normal ?_ | refine scopeQ_ret ?_ | refine scopeQ_exit ?_ | refine ewp_skip ?_ | refine ewp_block ?_ | refine ewp_exit ?_ | refine ewp_label ?_ | refine thenQ_normal ?_ | refine thenQ_ret ?_ | refine thenQ_exit ?_ | refine blockQ_normal ?_ | refine blockQ_ret ?_ | refine blockQ_here ?_ | refine blockQ_there (by decide) ?_ | refine ewp_ret ?_ | refine opsW_nil ?_ | refine quietW_nil ?_ | (refine run_cond (by simp; exact Gives.mk) (fun hb => ?_) (fun hb => ?_) <;> (try simp at hb)) | fail) | (first | refine run_callW hc (by simp; exact Gives.mk) (by simp; exact Gives.mk) (by simp; exact Gives.mk) (by simp; exact Gives.mk) (by simp; exact Gives.mk) (fun _ => by first | exact hs1) (by simp) (by simp) ?_ | refine run_callQ hc (by simp; exact Gives.mk) (by simp; exact Gives.mk) (by simp; exact Gives.mk) (by simp; exact Gives.mk) (by simp; exact Gives.mk) (fun _ => by first | exact hs1) (by simp) (by simp) ?_ | refine run_ops hc (by simp; first | exact Ends.go | exact Ends.halt) (by decide) (by first | exact True.intro | omega | (simp; done) | (simp; omega) | (simp at *; omega)) ?_ | refine run_quiet hc (by simp; first | exact Ends.go | exact Ends.halt) (by decide) (by first | exact True.intro | omega | (simp; done) | (simp; omega) | (simp at *; omega)) ?_ | refine run_regionW hc (by simp; exact Ends.halt) (by first | exact True.intro | omega | (simp; done) | (simp; omega) | (simp at *; omega)) ?_ | refine run_drawN hc (by kernel_rfl) (by decide) (by kernel_rfl) (by simp; exact Ends.halt) (by first | exact True.intro | omega | (simp; done) | (simp; omega) | (simp at *; omega)) ?_ | fail))
    · have hs2 := stands_ok l 62 [] (b + 1) (by omega) hm
      rw [pre_one] at hs2
      rw [if_pos hb]
      (refine run_drawT 4 hc (by kernel_rfl) (by kernel_rfl) ?_; simp only [List.take_succ_cons, List.take_zero, List.drop_succ_cons, List.drop_zero])
      repeat' (first | (first | refine ewp_seq ?_ | refine run_region hc (by simp; exact Ends.go) (by first | exact True.intro | omega | (simp; done) | (simp; omega) | (simp at *; omega)) ?_ | refine run_draw hc (by kernel_rfl) (by kernel_rfl) (by simp; exact Ends.go) (by first | exact True.intro | omega | (simp; done) | (simp; omega) | (simp at *; omega)) ?_ | refine ewp_scope ?_ | refine scopeQ_normal ?_ | refine scopeQ_ret ?_ | refine scopeQ_exit ?_ | refine ewp_skip ?_ | refine ewp_block ?_ | refine ewp_exit ?_ | refine ewp_label ?_ | refine thenQ_normal ?_ | refine thenQ_ret ?_ | refine thenQ_exit ?_ | refine blockQ_normal ?_ | refine blockQ_ret ?_ | refine blockQ_here ?_ | refine blockQ_there (by decide) ?_ | refine ewp_ret ?_ | refine opsW_nil ?_ | refine quietW_nil ?_ | (refine run_cond (by simp; exact Gives.mk) (fun hb => ?_) (fun hb => ?_) <;> (try simp at hb)) | fail) | (first | refine run_callW hc (by simp; exact Gives.mk) (by simp; exact Gives.mk) (by simp; exact Gives.mk) (by simp; exact Gives.mk) (by simp; exact Gives.mk) (fun _ => by first | exact hs2) (by simp) (by simp) ?_ | refine run_callQ hc (by simp; exact Gives.mk) (by simp; exact Gives.mk) (by simp; exact Gives.mk) (by simp; exact Gives.mk) (by simp; exact Gives.mk) (fun _ => by first | exact hs2) (by simp) (by simp) ?_ | refine run_ops hc (by simp; first | exact Ends.go | exact Ends.halt) (by decide) (by first | exact True.intro | omega | (simp; done) | (simp; omega) | (simp at *; omega)) ?_ | refine run_quiet hc (by simp; first | exact Ends.go | exact Ends.halt) (by decide) (by first | exact True.intro | omega | (simp; done) | (simp; omega) | (simp at *; omega)) ?_ | refine run_regionW hc (by simp; exact Ends.halt) (by first | exact True.intro | omega | (simp; done) | (simp; omega) | (simp at *; omega)) ?_ | refine run_drawN hc (by kernel_rfl) (by decide) (by kernel_rfl) (by simp; exact Ends.halt) (by first | exact True.intro | omega | (simp; done) | (simp; omega) | (simp at *; omega)) ?_ | fail))
      (refine run_leave hc (by simp; exact Gives.mk) ?_)
      (first | (simp; done) | (simp; omega))
    · have hs2 := stands_ok l 62 [] b (by omega) hm
      rw [pre_one] at hs2
      rw [if_neg hb]
      (refine run_drawT 4 hc (by kernel_rfl) (by kernel_rfl) ?_; simp only [List.take_succ_cons, List.take_zero, List.drop_succ_cons, List.drop_zero])
      repeat' (first | (first | refine ewp_seq ?_ | refine run_region hc (by simp; exact Ends.go) (by first | exact True.intro | omega | (simp; done) | (simp; omega) | (simp at *; omega)) ?_ | refine run_draw hc (by kernel_rfl) (by kernel_rfl) (by simp; exact Ends.go) (by first | exact True.intro | omega | (simp; done) | (simp; omega) | (simp at *; omega)) ?_ | refine ewp_scope ?_ | refine scopeQ_normal ?_ | refine scopeQ_ret ?_ | refine scopeQ_exit ?_ | refine ewp_skip ?_ | refine ewp_block ?_ | refine ewp_exit ?_ | refine ewp_label ?_ | refine thenQ_normal ?_ | refine thenQ_ret ?_ | refine thenQ_exit ?_ | refine blockQ_normal ?_ | refine blockQ_ret ?_ | refine blockQ_here ?_ | refine blockQ_there (by decide) ?_ | refine ewp_ret ?_ | refine opsW_nil ?_ | refine quietW_nil ?_ | (refine run_cond (by simp; exact Gives.mk) (fun hb => ?_) (fun hb => ?_) <;> (try simp at hb)) | fail) | (first | refine run_callW hc (by simp; exact Gives.mk) (by simp; exact Gives.mk) (by simp; exact Gives.mk) (by simp; exact Gives.mk) (by simp; exact Gives.mk) (fun _ => by first | exact hs2) (by simp) (by simp) ?_ | refine run_callQ hc (by simp; exact Gives.mk) (by simp; exact Gives.mk) (by simp; exact Gives.mk) (by simp; exact Gives.mk) (by simp; exact Gives.mk) (fun _ => by first | exact hs2) (by simp) (by simp) ?_ | refine run_ops hc (by simp; first | exact Ends.go | exact Ends.halt) (by decide) (by first | exact True.intro | omega | (simp; done) | (simp; omega) | (simp at *; omega)) ?_ | refine run_quiet hc (by simp; first | exact Ends.go | exact Ends.halt) (by decide) (by first | exact True.intro | omega | (simp; done) | (simp; omega) | (simp at *; omega)) ?_ | refine run_regionW hc (by simp; exact Ends.halt) (by first | exact True.intro | omega | (simp; done) | (simp; omega) | (simp at *; omega)) ?_ | refine run_drawN hc (by kernel_rfl) (by decide) (by kernel_rfl) (by simp; exact Ends.halt) (by first | exact True.intro | omega | (simp; done) | (simp; omega) | (simp at *; omega)) ?_ | fail))
      (refine run_leave hc (by simp; exact Gives.mk) ?_)
      (first | (simp; done) | (simp; omega))

/-! The end of a tag; what is marked. -/
def shR (l : Bs) (i : Nat) : Tk × Bool :=
  if [60, 47].isPrefixOf (l.drop i) = true ∧ nm inTagB l (i + 2) ≠ i + 2 then
    (⟨3, i, skip isBl l (nm inTagB l (i + 2)) + 1, small ((l.take (nm inTagB l (i + 2))).drop (i + 2)), []⟩, decide (l[skip isBl l (nm inTagB l (i + 2))]? = some 62))
  else (.none, false)
theorem shR_spec (l : Bs) (i : Nat) : (shR l i).2 = (shut l i).1.isSome ∧ ∀ r, (shut l i).1 = some r → (shR l i).1 = ⟨3, i, r.2, r.1, []⟩ := by
  unfold shR shut
  by_cases h1 : [60, 47].isPrefixOf (l.drop i) = true
  rotate_left
  · rw [if_neg (fun h => h1 h.1), if_neg h1]; exact ⟨rfl, fun r h => by cases h⟩
  rw [if_pos h1]
  by_cases h2 : nm inTagB l (i + 2) = i + 2
  · rw [if_neg (fun h => h.2 h2), if_neg (fun h => h.1 h2)]; exact ⟨rfl, fun r h => by cases h⟩
  rw [if_pos ⟨h1, h2⟩]
  split
  · rename_i h4
    exact ⟨by simp [h4.2], fun r h => by cases h; rfl⟩
  · rename_i h4
    exact ⟨decide_eq_false (fun h => h4 ⟨h2, h⟩), fun r h => by cases h⟩
theorem rClosed_ok (l : Bs) (i : Nat) (hi : i ≤ l.length) (hm : l.length ≤ 200000) :
    FnOk Try.prog 74 [str l, int i] (.tup [.agg (encT (shR l i).1), tru (shR l i).2]) := by
  refine fnOk Try.func74 rfl (by kernel_rfl) Try.ntmps74 _ rfl (by simp) fun C hc => ?_
  have hh := stands_ok l 60 [47] i (by omega) hm
  have hn := rName_ok l [45] (i + 2) (by omega) hm
  rw [inB_tag] at hn
  have h2 := nm_ge inTagB l (i + 2)
  have hp := fun h => pre_len (p := [60, 47]) (l := l) (i := i) hi h
  simp only [List.length_cons, List.length_nil] at hp
  have h3 := nm_le inTagB l (i + 2)
  unfold shR
  by_cases h0 : [60, 47].isPrefixOf (l.drop i) = true ∧ nm inTagB l (i + 2) ≠ i + 2
  rotate_left
  · rw [if_neg h0]
    generalize nm inTagB l (i + 2) = e at hn h0 h2 ⊢
    generalize [60, 47].isPrefixOf (l.drop i) = q at hh h0
    repeat' (first | (first | refine ewp_seq ?_ | refine run_region hc (by simp; exact Ends.go) (by first | exact True.intro | omega | (simp; done) | (simp; omega) | (simp at *; omega)) ?_ | refine run_draw hc (by kernel_rfl) (by kernel_rfl) (by simp; exact Ends.go) (by first | exact True.intro | omega | (simp; done) | (simp; omega) | (simp at *; omega)) ?_ | refine ewp_scope ?_ | refine scopeQ_normal ?_ | refine scopeQ_ret ?_ | refine scopeQ_exit ?_ | refine ewp_skip ?_ | refine ewp_block ?_ | refine ewp_exit ?_ | refine ewp_label ?_ | refine thenQ_normal ?_ | refine thenQ_ret ?_ | refine thenQ_exit ?_ | refine blockQ_normal ?_ | refine blockQ_ret ?_ | refine blockQ_here ?_ | refine blockQ_there (by decide) ?_ | refine ewp_ret ?_ | refine opsW_nil ?_ | refine quietW_nil ?_ | (refine run_cond (by simp; exact Gives.mk) (fun hb => ?_) (fun hb => ?_) <;> (try simp at hb)) | fail) | (first | refine run_callW hc (by simp; exact Gives.mk) (by simp; exact Gives.mk) (by simp; exact Gives.mk) (by simp; exact Gives.mk) (by simp; exact Gives.mk) (fun _ => by first | exact hh | exact hn) (by simp) (by simp) ?_ | refine run_callQ hc (by simp; exact Gives.mk) (by simp; exact Gives.mk) (by simp; exact Gives.mk) (by simp; exact Gives.mk) (by simp; exact Gives.mk) (fun _ => by first | exact hh | exact hn) (by simp) (by simp) ?_ | refine run_ops hc (by simp; first | exact Ends.go | exact Ends.halt) (by decide) (by first | exact True.intro | omega | (simp; done) | (simp; omega) | (simp at *; omega)) ?_ | refine run_quiet hc (by simp; first | exact Ends.go | exact Ends.halt) (by decide) (by first | exact True.intro | omega | (simp; done) | (simp; omega) | (simp at *; omega)) ?_ | refine run_regionW hc (by simp; exact Ends.halt) (by first | exact True.intro | omega | (simp; done) | (simp; omega) | (simp at *; omega)) ?_ | refine run_drawN hc (by kernel_rfl) (by decide) (by kernel_rfl) (by simp; exact Ends.halt) (by first | exact True.intro | omega | (simp; done) | (simp; omega) | (simp at *; omega)) ?_ | fail))
    · (refine run_leave hc (by simp; exact Gives.mk) ?_)
      (first | (simp; done) | (simp; omega))
    · exfalso
      exact h0 ⟨hb.1, by omega⟩
  rw [if_pos h0]
  obtain ⟨h0, h1⟩ := h0
  have hil := hp h0
  rw [h0] at hh
  have h3 := h3 (by omega)
  generalize nm inTagB l (i + 2) = e at h1 h2 h3 hn ⊢
  have hsm := rSmall_ok ((l.take e).drop (i + 2)) (by simp; omega)
  have hbl := rBlanks_ok l e (by omega) hm
  have h7 := skip_ge isBl l e
  have h8 := skip_le isBl l e h3
  generalize skip isBl l e = b at hbl h7 h8 ⊢
  have hs1 := stands_ok l 62 [] b (by omega) hm
  rw [pre_one] at hs1
  repeat' (first | (first | refine ewp_seq ?_ | refine run_region hc (by simp; exact Ends.go) (by first | exact True.intro | omega | (simp; done) | (simp; omega) | (simp at *; omega)) ?_ | refine run_draw hc (by kernel_rfl) (by kernel_rfl) (by simp; exact Ends.go) (by first | exact True.intro | omega | (simp; done) | (simp; omega) | (simp at *; omega)) ?_ | refine ewp_scope ?_ | refine scopeQ_normal ?_ | refine scopeQ_ret ?_ | refine scopeQ_exit ?_ | refine ewp_skip ?_ | refine ewp_block ?_ | refine ewp_exit ?_ | refine ewp_label ?_ | refine thenQ_normal ?_ | refine thenQ_ret ?_ | refine thenQ_exit ?_ | refine blockQ_normal ?_ | refine blockQ_ret ?_ | refine blockQ_here ?_ | refine blockQ_there (by decide) ?_ | refine ewp_ret ?_ | refine opsW_nil ?_ | refine quietW_nil ?_ | (refine run_cond (by simp; exact Gives.mk) (fun hb => ?_) (fun hb => ?_) <;> (try simp at hb)) | fail) | (first | refine run_callW hc (by simp; exact Gives.mk) (by simp; exact Gives.mk) (by simp; exact Gives.mk) (by simp; exact Gives.mk) (by simp; exact Gives.mk) (fun _ => by first | exact hh | exact hn | exact hsm | exact hbl | exact hs1) (by simp) (by simp) ?_ | refine run_callQ hc (by simp; exact Gives.mk) (by simp; exact Gives.mk) (by simp; exact Gives.mk) (by simp; exact Gives.mk) (by simp; exact Gives.mk) (fun _ => by first | exact hh | exact hn | exact hsm | exact hbl | exact hs1) (by simp) (by simp) ?_ | refine run_ops hc (by simp; first | exact Ends.go | exact Ends.halt) (by decide) (by first | exact True.intro | omega | (simp; done) | (simp; omega) | (simp at *; omega)) ?_ | refine run_quiet hc (by simp; first | exact Ends.go | exact Ends.halt) (by decide) (by first | exact True.intro | omega | (simp; done) | (simp; omega) | (simp at *; omega)) ?_ | refine run_regionW hc (by simp; exact Ends.halt) (by first | exact True.intro | omega | (simp; done) | (simp; omega) | (simp at *; omega)) ?_ | refine run_drawN hc (by kernel_rfl) (by decide) (by kernel_rfl) (by simp; exact Ends.halt) (by first | exact True.intro | omega | (simp; done) | (simp; omega) | (simp at *; omega)) ?_ | fail))
  · exfalso; omega
  · (refine run_leave hc (by simp; exact Gives.mk) ?_)
    (first | (simp; done) | (simp; omega))
def mrk (l : Bs) (i : Nat) : Tk × Bool :=
  match cmt l i with
  | some j => (⟨4, i, j, [], []⟩, true)
  | none => if (shR l i).2 = true then ((shR l i).1, true) else opR l i
theorem mrk_spec (l : Bs) (i : Nat) : (mrk l i).2 = (tok l i).isSome ∧ ∀ t, tok l i = some t → (mrk l i).1 = t := by
  unfold mrk tok
  cases cmt l i with
  | some j => exact ⟨rfl, fun t h => by cases h; rfl⟩
  | none =>
    simp only
    obtain ⟨h1, h2⟩ := shR_spec l i
    obtain ⟨h3, h4⟩ := opR_spec l i
    cases hs : (shut l i).1 with
    | some r =>
      rw [hs] at h1
      rw [if_pos (by simpa using h1)]
      exact ⟨rfl, fun t h => by cases h; exact h2 r hs⟩
    | none =>
      rw [hs] at h1
      rw [if_neg (by simp [h1])]
      cases ho : (opn l i).1 with
      | some r =>
        rw [ho] at h3
        exact ⟨h3, fun t h => by cases h; exact h4 r ho⟩
      | none =>
        rw [ho] at h3
        exact ⟨h3, fun t h => by cases h⟩
theorem attD_cases (t : Tk) : attD t = attSl t.atts ∨ attD t = nilSl := by unfold attD; split <;> simp
theorem rMarked_ok (l : Bs) (i : Nat) (hi : i ≤ l.length) (hm : l.length ≤ 200000) :
    FnOk Try.prog 60 [str l, int i] (.tup [.agg (encT (mrk l i).1), tru (mrk l i).2]) := by
  refine fnOk Try.func60 rfl (by kernel_rfl) Try.ntmps60 _ rfl (by simp) fun C hc => ?_
  have hc1 := rComment_ok l i hi hm
  have hc2 := rClosed_ok l i hi hm
  have hc3 := rOpened_ok l i hi hm
  unfold mrk
  generalize cmt l i = r at hc1 ⊢
  obtain _ | j := r
  · simp only at hc1 ⊢
    generalize shR l i = x at hc2 ⊢
    obtain ⟨t, q⟩ := x
    generalize opR l i = y at hc3 ⊢
    obtain ⟨u, o⟩ := y
    simp only [encT] at hc2 hc3 ⊢
    rcases attD_cases t with h1 | h1 <;> rcases attD_cases u with h2 | h2
    all_goals
      rw [h1] at hc2
      rw [h2] at hc3
      repeat' (first | (first | refine ewp_seq ?_ | refine run_region hc (by simp; exact Ends.go) (by first | exact True.intro | omega | (simp; done) | (simp; omega) | (simp at *; omega)) ?_ | refine run_draw hc (by kernel_rfl) (by kernel_rfl) (by simp; exact Ends.go) (by first | exact True.intro | omega | (simp; done) | (simp; omega) | (simp at *; omega)) ?_ | refine ewp_scope ?_ | refine scopeQ_normal ?_ | refine scopeQ_ret ?_ | refine scopeQ_exit ?_ | refine ewp_skip ?_ | refine ewp_block ?_ | refine ewp_exit ?_ | refine ewp_label ?_ | refine thenQ_normal ?_ | refine thenQ_ret ?_ | refine thenQ_exit ?_ | refine blockQ_normal ?_ | refine blockQ_ret ?_ | refine blockQ_here ?_ | refine blockQ_there (by decide) ?_ | refine ewp_ret ?_ | refine opsW_nil ?_ | refine quietW_nil ?_ | (refine run_cond (by simp; exact Gives.mk) (fun hb => ?_) (fun hb => ?_) <;> (try simp at hb)) | fail) | (first | refine run_callW hc (by simp; exact Gives.mk) (by simp; exact Gives.mk) (by simp; exact Gives.mk) (by simp; exact Gives.mk) (by simp; exact Gives.mk) (fun _ => by first | exact hc1 | exact hc2 | exact hc3) (by simp) (by simp) ?_ | refine run_callQ hc (by simp; exact Gives.mk) (by simp; exact Gives.mk) (by simp; exact Gives.mk) (by simp; exact Gives.mk) (by simp; exact Gives.mk) (fun _ => by first | exact hc1 | exact hc2 | exact hc3) (by simp) (by simp) ?_ | refine run_ops hc (by simp; first | exact Ends.go | exact Ends.halt) (by decide) (by first | exact True.intro | omega | (simp; done) | (simp; omega) | (simp at *; omega)) ?_ | refine run_quiet hc (by simp; first | exact Ends.go | exact Ends.halt) (by decide) (by first | exact True.intro | omega | (simp; done) | (simp; omega) | (simp at *; omega)) ?_ | refine run_regionW hc (by simp; exact Ends.halt) (by first | exact True.intro | omega | (simp; done) | (simp; omega) | (simp at *; omega)) ?_ | refine run_drawN hc (by kernel_rfl) (by decide) (by kernel_rfl) (by simp; exact Ends.halt) (by first | exact True.intro | omega | (simp; done) | (simp; omega) | (simp at *; omega)) ?_ | fail))
      all_goals try contradiction
      · rw [if_pos hb]
        simp only [h1]
        (refine run_leave hc (by simp; exact Gives.mk) ?_)
        (first | (simp; done) | (simp; omega))
      · rw [if_neg (by simpa using hb)]
        simp only [h2]
        (refine run_leave hc (by simp; exact Gives.mk) ?_)
        (first | (simp; done) | (simp; omega))
  · simp only at hc1 ⊢
    repeat' (first | (first | refine ewp_seq ?_ | refine run_region hc (by simp; exact Ends.go) (by first | exact True.intro | omega | (simp; done) | (simp; omega) | (simp at *; omega)) ?_ | refine run_draw hc (by kernel_rfl) (by kernel_rfl) (by simp; exact Ends.go) (by first | exact True.intro | omega | (simp; done) | (simp; omega) | (simp at *; omega)) ?_ | refine ewp_scope ?_ | refine scopeQ_normal ?_ | refine scopeQ_ret ?_ | refine scopeQ_exit ?_ | refine ewp_skip ?_ | refine ewp_block ?_ | refine ewp_exit ?_ | refine ewp_label ?_ | refine thenQ_normal ?_ | refine thenQ_ret ?_ | refine thenQ_exit ?_ | refine blockQ_normal ?_ | refine blockQ_ret ?_ | refine blockQ_here ?_ | refine blockQ_there (by decide) ?_ | refine ewp_ret ?_ | refine opsW_nil ?_ | refine quietW_nil ?_ | (refine run_cond (by simp; exact Gives.mk) (fun hb => ?_) (fun hb => ?_) <;> (try simp at hb)) | fail) | (first | refine run_callW hc (by simp; exact Gives.mk) (by simp; exact Gives.mk) (by simp; exact Gives.mk) (by simp; exact Gives.mk) (by simp; exact Gives.mk) (fun _ => by first | exact hc1) (by simp) (by simp) ?_ | refine run_callQ hc (by simp; exact Gives.mk) (by simp; exact Gives.mk) (by simp; exact Gives.mk) (by simp; exact Gives.mk) (by simp; exact Gives.mk) (fun _ => by first | exact hc1) (by simp) (by simp) ?_ | refine run_ops hc (by simp; first | exact Ends.go | exact Ends.halt) (by decide) (by first | exact True.intro | omega | (simp; done) | (simp; omega) | (simp at *; omega)) ?_ | refine run_quiet hc (by simp; first | exact Ends.go | exact Ends.halt) (by decide) (by first | exact True.intro | omega | (simp; done) | (simp; omega) | (simp at *; omega)) ?_ | refine run_regionW hc (by simp; exact Ends.halt) (by first | exact True.intro | omega | (simp; done) | (simp; omega) | (simp at *; omega)) ?_ | refine run_drawN hc (by kernel_rfl) (by decide) (by kernel_rfl) (by simp; exact Ends.halt) (by first | exact True.intro | omega | (simp; done) | (simp; omega) | (simp at *; omega)) ?_ | fail))
    (refine run_leave hc (by simp; exact Gives.mk) ?_)
    (first | (simp; done) | (simp; omega))
end Go.Proofs.Ytgebkjngnfdeiaa
