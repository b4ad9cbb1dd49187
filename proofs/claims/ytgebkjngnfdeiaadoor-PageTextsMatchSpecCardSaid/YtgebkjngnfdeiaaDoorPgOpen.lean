/-
  PAGE: the scanner: beginnings of tags, tokens. (WITH run_drawN.)
-/
import Derived.Test.YtgebkjngnfdeiaaDoorPgAtt
set_option linter.unusedSimpArgs false
set_option linter.unusedVariables false
namespace Go.Proofs.YtgebkjngnfdeiaaDoor
open Go.Lw
set_option maxRecDepth 100000
set_option maxHeartbeats 1000000

theorem att_le (l : Bs) (i : Nat) (hi : i ≤ l.length) : (att l i).2.2 ≤ l.length ∧ i ≤ (att l i).2.2 ∧ ((att l i).2.1 = true → i < (att l i).2.2 ∧ i ≤ (att l i).1.fr ∧ (att l i).1.fr ≤ (att l i).1.til ∧ (att l i).1.til ≤ (att l i).2.2 ∧ ((att l i).1.has = false → (att l i).1.fr = (att l i).1.til)) := by
  have h1 := skip_ge isBl l i
  have h2 := skip_le isBl l i hi
  unfold att
  generalize skip isBl l i = b at h1 h2 ⊢
  have h3 := nm_ge inNameB l b
  have h4 := nm_le inNameB l b h2
  generalize nm inNameB l b = e at h3 h4 ⊢
  split
  · simp; omega
  split
  · simp; omega
  split
  · rename_i he
    have hlt : e < l.length := (List.getElem?_eq_some_iff.1 he).1
    obtain ⟨h5, h6, h7⟩ := val_le l (e + 1) (by omega)
    split
    · rename_i ho
      have h8 := h7 ho
      simp; omega
    · simp; omega
  · simp; omega
def atts (l : Bs) (i : Nat) : List Atr × Nat :=
  if (att l i).2.1 = true ∧ i < (att l i).2.2 ∧ (att l i).2.2 ≤ l.length then ((att l i).1 :: (atts l (att l i).2.2).1, (atts l (att l i).2.2).2) else ([], i)
termination_by l.length - i
theorem atts_yes {l : Bs} {i : Nat} (hi : i ≤ l.length) (h : (att l i).2.1 = true) : atts l i = ((att l i).1 :: (atts l (att l i).2.2).1, (atts l (att l i).2.2).2) := by
  have := att_le l i hi
  rw [atts, if_pos ⟨h, (this.2.2 h).1, this.1⟩]
theorem atts_no {l : Bs} {i : Nat} (h : (att l i).2.1 = false) : atts l i = ([], i) := by
  rw [atts, if_neg (fun hx => by rw [h] at hx; exact absurd hx.1 (by decide))]
theorem atts_le (l : Bs) (i : Nat) (hi : i ≤ l.length) : i ≤ (atts l i).2 ∧ (atts l i).2 ≤ l.length ∧ (∀ a ∈ (atts l i).1, i ≤ a.fr ∧ a.fr ≤ a.til ∧ a.til ≤ (atts l i).2 ∧ (a.has = false → a.fr = a.til)) ∧ (atts l i).1.length + i ≤ (atts l i).2 := by
  by_cases h : (att l i).2.1 = true
  · have h1 := att_le l i hi
    have h2 := h1.2.2 h
    have h3 := atts_le l (att l i).2.2 h1.1
    rw [atts_yes hi h]
    refine ⟨by simp; omega, by simp; omega, fun a ha => ?_, by simp; omega⟩
    cases ha with
    | head => exact ⟨h2.2.1, h2.2.2.1, by simp; omega, h2.2.2.2.2⟩
    | tail _ ha =>
      have := h3.2.2.1 a ha
      exact ⟨by omega, by omega, by simp; omega, this.2.2.2⟩
  · rw [atts_no (by simpa using h)]
    simp; omega
termination_by l.length - i
decreasing_by omega

abbrev attSl (m : List Atr) : D := .sl m.length fun i => encA (m[i]?.getD .none)
@[simp] theorem getD_encA (o : Option Atr) : (Option.map encA o).getD [.lit (.string (bs [])), .lit (.string (bs [])), .lit (.int .i64 0), .lit (.int .i64 0), .lit (.bool false)] = encA (o.getD .none) := by cases o <;> rfl
abbrev nilSl : D := .lit (.slice none 0 0)
/-- The beginning of a tag. -/
def opn (l : Bs) (i : Nat) : Option (Bs × List Atr × Nat) × Nat :=
  if l[i]? = some 60 then
    if nm inTagB l (i + 1) = i + 1 then (none, i + 1)
    else
      let r := atts l (nm inTagB l (i + 1))
      let b := skip isBl l r.2
      let c := if l[b]? = some 47 then b + 1 else b
      if l[c]? = some 62 then (some (small ((l.take (nm inTagB l (i + 1))).drop (i + 1)), r.1, c + 1), c + 1) else (none, c)
  else (none, i)
@[simp] def opnD : Option (Bs × List Atr × Nat) → D
  | some r => .tup [str r.1, attSl r.2.1, tru true]
  | none => .tup [str [], nilSl, tru false]
/-! Tokens. -/
structure Tk where
  kind : Nat
  fr : Nat
  til : Nat
  name : Bs
  atts : List Atr
abbrev Tk.none : Tk := ⟨0, 0, 0, [], []⟩
@[simp] def attD (t : Tk) : D := if t.kind = 2 then attSl t.atts else nilSl
abbrev encT (t : Tk) : List D := [int t.kind, int t.fr, int t.til, str t.name, attD t]
def tok (l : Bs) (i : Nat) : Option Tk :=
  match cmt l i with
  | some j => some ⟨4, i, j, [], []⟩
  | none => match (shut l i).1 with
    | some r => some ⟨3, i, r.2, r.1, []⟩
    | none => match (opn l i).1 with
      | some r => some ⟨2, i, r.2.2, r.1, r.2.1⟩
      | none => none
@[simp] def tokD : Option Tk → D
  | some t => .tup [.agg (encT t), tru true]
  | none => .tup [.agg (encT .none), tru false]
theorem shut_le {l : Bs} {i : Nat} (hi : i ≤ l.length) : (shut l i).2 ≤ l.length ∧ ∀ r, (shut l i).1 = some r → (shut l i).2 = r.2 ∧ i + 3 < r.2 := by
  unfold shut
  split
  · rename_i h1
    have hl := pre_len hi h1
    simp only [List.length_cons, List.length_nil] at hl
    have h2 := nm_ge inTagB l (i + 2)
    have h3 := nm_le inTagB l (i + 2) (by omega)
    generalize nm inTagB l (i + 2) = e at h2 h3 ⊢
    have h4 := skip_ge isBl l e
    have h5 := skip_le isBl l e h3
    generalize skip isBl l e = b at h4 h5 ⊢
    split
    · rename_i h6
      have h7 : b < l.length := (List.getElem?_eq_some_iff.1 h6.2).1
      refine ⟨by simp; omega, fun r hr => ?_⟩
      obtain rfl := Option.some.inj hr
      simp; omega
    · exact ⟨by simp; omega, fun r hr => by cases hr⟩
  · exact ⟨hi, fun r hr => by cases hr⟩
theorem opn_le {l : Bs} {i : Nat} (hi : i ≤ l.length) : (opn l i).2 ≤ l.length ∧ ∀ r, (opn l i).1 = some r → (opn l i).2 = r.2.2 ∧ i + 2 < r.2.2 ∧ (∀ a ∈ r.2.1, i ≤ a.fr ∧ a.fr ≤ a.til ∧ a.til ≤ r.2.2 ∧ (a.has = false → a.fr = a.til)) ∧ r.2.1.length ≤ l.length := by
  unfold opn
  split
  · rename_i h1
    have hlt : i < l.length := (List.getElem?_eq_some_iff.1 h1).1
    have h2 := nm_ge inTagB l (i + 1)
    have h3 := nm_le inTagB l (i + 1) (by omega)
    generalize nm inTagB l (i + 1) = e at h2 h3 ⊢
    split
    · exact ⟨by simp; omega, fun r hr => by cases hr⟩
    · obtain ⟨h4, h5, h6, h6'⟩ := atts_le l e h3
      generalize atts l e = q at h4 h5 h6 h6' ⊢
      have h7 := skip_ge isBl l q.2
      have h8 := skip_le isBl l q.2 h5
      simp only
      generalize skip isBl l q.2 = b at h7 h8 ⊢
      have h9 : b ≤ (if l[b]? = some 47 then b + 1 else b) ∧ (if l[b]? = some 47 then b + 1 else b) ≤ l.length := by
        split
        · rename_i h; have := (List.getElem?_eq_some_iff.1 h).1; omega
        · omega
      generalize (if l[b]? = some 47 then b + 1 else b) = c at h9 ⊢
      split
      · rename_i h10
        have h11 : c < l.length := (List.getElem?_eq_some_iff.1 h10).1
        refine ⟨by simp; omega, fun r hr => ?_⟩
        obtain rfl := Option.some.inj hr
        refine ⟨rfl, by simp; omega, fun a ha => ?_, by simp; omega⟩
        have := h6 a ha
        exact ⟨by omega, by omega, by simp; omega, this.2.2.2⟩
      · exact ⟨by simp; omega, fun r hr => by cases hr⟩
  · exact ⟨hi, fun r hr => by cases hr⟩
end Go.Proofs.YtgebkjngnfdeiaaDoor
