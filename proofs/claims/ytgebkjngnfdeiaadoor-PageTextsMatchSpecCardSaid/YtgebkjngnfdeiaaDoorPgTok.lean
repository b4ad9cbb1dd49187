/-
  PAGE: the page divided into tokens. (WITH run_drawN.)
-/
import Derived.Test.YtgebkjngnfdeiaaDoorPgRaw
set_option linter.unusedSimpArgs false
set_option linter.unusedVariables false
namespace Go.Proofs.YtgebkjngnfdeiaaDoor
open Go.Lw
set_option maxRecDepth 100000
set_option maxHeartbeats 1000000

@[simp] theorem take_two {α β : Type} (f : α → β) (m x : List α) : List.take (m.length + x.length) (List.map f m ++ List.map f x) = List.map f m ++ List.map f x := List.take_of_length_le (by simp)
def txt (a b : Nat) : List Tk := if a < b then [⟨1, a, b, [], []⟩] else []
abbrev dfT : List D := [.lit (.int .i64 0), .lit (.int .i64 0), .lit (.int .i64 0), .lit (.string (bs [])), .lit (.slice none 0 0)]
/-! What is still to come. -/
theorem shut_name {l : Bs} {i : Nat} {r : Bs × Nat} (h : (shut l i).1 = some r) : r.1.length ≤ l.length := by
  unfold shut at h
  split at h
  · split at h
    · obtain rfl := Option.some.inj h
      simp; omega
    · cases h
  · cases h
theorem opn_name {l : Bs} {i : Nat} {r : Bs × List Atr × Nat} (h : (opn l i).1 = some r) : r.1.length ≤ l.length := by
  unfold opn at h
  split at h
  · split at h
    · cases h
    · simp only at h
      split at h
      · split at h
        · obtain rfl := Option.some.inj h
          simp; omega
        · cases h
      · split at h
        · obtain rfl := Option.some.inj h
          simp; omega
        · cases h
  · cases h
theorem tok_le {l : Bs} {i : Nat} {t : Tk} (hi : i ≤ l.length) (h : tok l i = some t) : i + 1 ≤ t.til ∧ t.til ≤ l.length ∧ t.fr = i ∧ (t.kind = 2 → 2 ≤ t.til) ∧ t.name.length ≤ l.length ∧ (∀ a ∈ t.atts, i ≤ a.fr ∧ a.fr ≤ a.til ∧ a.til ≤ t.til ∧ (a.has = false → a.fr = a.til)) := by
  unfold tok at h
  have h1 := fun j => cmt_le (l := l) (i := i) (j := j) hi
  have h2 := shut_le (l := l) hi
  have h3 := opn_le (l := l) hi
  split at h
  · rename_i j hj
    obtain rfl := Option.some.inj h
    have := h1 j hj
    simp; omega
  · split at h
    · rename_i r hr
      obtain rfl := Option.some.inj h
      have h4 := h2.2 r hr
      have h5 := shut_name hr
      refine ⟨by simp; omega, by simp; omega, rfl, by simp, h5, by simp⟩
    · split at h
      · rename_i r hr
        obtain rfl := Option.some.inj h
        have h4 := h3.2 r hr
        have h5 := opn_name hr
        exact ⟨by simp; omega, by simp; omega, rfl, by simp; omega, h5, h4.2.2.1⟩
      · cases h
def parts (l : Bs) (fr i : Nat) : List Tk :=
  if h : i < l.length then
    match ht : tok l i with
    | none => parts l fr (i + 1)
    | some t =>
      if rawB l t = true then txt fr i ++ t :: (txt t.til (rawE l t.til t.name) ++ parts l (rawE l t.til t.name) (rawE l t.til t.name))
      else txt fr i ++ t :: parts l t.til t.til
  else txt fr l.length
termination_by l.length - i
decreasing_by
  · omega
  · have h1 := tok_le (by omega) ht
    have h2 := rawE_le l t.til t.name h1.2.1
    omega
  · have h1 := tok_le (by omega) ht
    omega
/-- So goes the page: it stops where there are too many. -/
def run (l : Bs) (fr i : Nat) (m : List Tk) : List Tk :=
  if h : i < l.length ∧ m.length ≤ 20000 then
    match ht : tok l i with
    | none => run l fr (i + 1) m
    | some t =>
      if rawB l t = true then run l (rawE l t.til t.name) (rawE l t.til t.name) (m ++ txt fr i ++ t :: txt t.til (rawE l t.til t.name))
      else run l t.til t.til (m ++ txt fr i ++ [t])
  else m ++ txt fr l.length
termination_by l.length - i
decreasing_by
  · omega
  · have h1 := tok_le (by omega) ht
    have h2 := rawE_le l t.til t.name h1.2.1
    omega
  · have h1 := tok_le (by omega) ht
    omega
theorem run_none {l : Bs} {fr i : Nat} {m : List Tk} (h : i < l.length) (hm : m.length ≤ 20000) (ht : tok l i = none) : run l fr i m = run l fr (i + 1) m := by
  rw [run, dif_pos ⟨h, hm⟩]
  split
  · rfl
  · rename_i t h'; rw [ht] at h'; cases h'
theorem run_some {l : Bs} {fr i : Nat} {m : List Tk} {t : Tk} (h : i < l.length) (hm : m.length ≤ 20000) (ht : tok l i = some t) : run l fr i m = if rawB l t = true then run l (rawE l t.til t.name) (rawE l t.til t.name) (m ++ txt fr i ++ t :: txt t.til (rawE l t.til t.name)) else run l t.til t.til (m ++ txt fr i ++ [t]) := by
  rw [run, dif_pos ⟨h, hm⟩]
  split
  · rename_i h'; rw [ht] at h'; cases h'
  · rename_i t' h'
    rw [ht] at h'
    cases h'
    rfl
theorem run_end {l : Bs} {fr i : Nat} {m : List Tk} (h : ¬ (i < l.length ∧ m.length ≤ 20000)) : run l fr i m = m ++ txt fr l.length := by rw [run, dif_neg h]
theorem tok_lt {l : Bs} {i : Nat} (h : l[i]? ≠ some 60) : tok l i = none := by
  have h0 : ∀ p : Bs, (60 :: p).isPrefixOf (l.drop i) = false := by
    intro p
    by_cases hi : i < l.length
    · rw [List.drop_eq_getElem_cons hi]
      rw [List.getElem?_eq_getElem hi] at h
      have : ((60 : UInt8) == l[i]) = false := by
        rw [beq_eq_false_iff_ne]
        exact fun e => h (by rw [e])
      simp [List.isPrefixOf, this]
    · rw [List.drop_of_length_le (by omega)]
      rfl
  have e1 : cmt l i = none := by unfold cmt; rw [h0]; simp
  have e2 : (shut l i).1 = none := by unfold shut; rw [h0]; simp
  have e3 : (opn l i).1 = none := by unfold opn; rw [if_neg h]
  unfold tok
  rw [e1, e2, e3]
theorem txt_len (a b : Nat) : (txt a b).length ≤ 1 := by unfold txt; split <;> simp
abbrev tokSl (m : List Tk) : D := .sl m.length fun i => encT (m[i]?.getD .none)
@[simp] theorem getD_encT (o : Option Tk) : (Option.map encT o).getD dfT = encT (o.getD .none) := by cases o <;> rfl
end Go.Proofs.YtgebkjngnfdeiaaDoor
