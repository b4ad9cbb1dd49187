/-
  ADDRESS, IN PLAIN LEAN: what the reader's methods do.
-/
import Derived.Test.YtglonkenckigiaaGreatDoorAdT
set_option linter.unusedSimpArgs false
set_option linter.unusedVariables false
namespace Go.Proofs.YtglonkenckigiaaGreatDoor
open Go.Lw
set_option maxRecDepth 100000
set_option maxHeartbeats 1000000

theorem pre_iff (c : UInt8) (t : Bs) (i : Nat) : [c] <+: t.drop i ↔ t.drop i = c :: t.drop (i + 1) := by
  constructor
  · rintro ⟨r, h⟩
    have h2 : t.drop (i + 1) = (t.drop i).drop 1 := by simp
    rw [h2, ← h]; simp
  · intro h; rw [h]; exact ⟨_, rfl⟩
theorem pre_lt {c : UInt8} {t : Bs} {i : Nat} (h : [c] <+: t.drop i) : i < t.length := by
  rw [pre_iff] at h
  have := congrArg List.length h
  simp at this; omega
theorem head_not {c : UInt8} {r : Bs} (h : ¬ [c] <+: r) : ∀ r', r ≠ c :: r' := fun r' e => h ⟨r', e.symm⟩
/-- What place does: whether it goes on, where it stands, what it knows. -/
def plR (t : Bs) (i : Nat) (a : Adr) : Bool × Nat × Adr :=
  if isHostB ((t.drop i).takeWhile hostB) = true then
    if [58] <+: t.drop (skip hostB t i) then
      if portB ((t.drop (skip hostB t i + 1)).takeWhile isDig) = 0 then (false, skip hostB t i + 1, { a with host := (t.drop i).takeWhile hostB, port := (t.drop (skip hostB t i + 1)).takeWhile isDig })
      else (decide (endP (t.drop (skip isDig t (skip hostB t i + 1)))), skip isDig t (skip hostB t i + 1), { a with host := (t.drop i).takeWhile hostB, port := (t.drop (skip hostB t i + 1)).takeWhile isDig })
    else (decide (endP (t.drop (skip hostB t i))), skip hostB t i, { a with host := (t.drop i).takeWhile hostB })
  else (false, i, { a with host := (t.drop i).takeWhile hostB })
def frR (t : Bs) (i : Nat) (a : Adr) : Bool × Nat × Adr :=
  if [35] <+: t.drop i then ((rowE [] (t.drop (i + 1))).2, i + 1 + (rowE [] (t.drop (i + 1))).1, { a with hasF := true, frag := (t.drop (i + 1)).take (rowE [] (t.drop (i + 1))).1 })
  else (true, i, a)
def quR (t : Bs) (i : Nat) (a : Adr) : Bool × Nat × Adr :=
  if [63] <+: t.drop i then
    if (rowE [35] (t.drop (i + 1))).2 = true then frR t (i + 1 + (rowE [35] (t.drop (i + 1))).1) { a with hasQ := true, query := (t.drop (i + 1)).take (rowE [35] (t.drop (i + 1))).1 }
    else (false, i + 1 + (rowE [35] (t.drop (i + 1))).1, { a with hasQ := true, query := (t.drop (i + 1)).take (rowE [35] (t.drop (i + 1))).1 })
  else frR t i a
def reR (t : Bs) (i : Nat) (a : Adr) : Bool × Nat × Adr :=
  if (rowE [63, 35] (t.drop i)).2 = true then quR t (i + (rowE [63, 35] (t.drop i)).1) { a with path := (t.drop i).take (rowE [63, 35] (t.drop i)).1 }
  else (false, i + (rowE [63, 35] (t.drop i)).1, { a with path := (t.drop i).take (rowE [63, 35] (t.drop i)).1 })
theorem skip_drop (p : UInt8 → Bool) (t : Bs) (i : Nat) : (t.drop i).drop ((t.drop i).takeWhile p).length = t.drop (skip p t i) := by
  rw [List.drop_drop]; unfold skip; congr 1
theorem skip_len (p : UInt8 → Bool) (t : Bs) (i : Nat) : i + ((t.drop i).takeWhile p).length = skip p t i := rfl
theorem plR_P (t : Bs) (i : Nat) (a : Adr) (hp : a.port = []) : placeP (t.drop i) i = if (plR t i a).1 = true then .ok ((plR t i a).2.2.host, (plR t i a).2.2.port, t.drop (plR t i a).2.1, (plR t i a).2.1) else .error (plR t i a).2.1 := by
  unfold placeP plR
  rw [skip_drop, skip_len]
  split
  · by_cases h : [58] <+: t.drop (skip hostB t i)
    · rw [if_pos h]
      have e := (pre_iff _ _ _).1 h
      generalize hr : t.drop (skip hostB t i + 1) = q at e
      rw [e]
      simp only
      split
      · simp
      · have e2 := skip_drop isDig t (skip hostB t i + 1)
        have e3 := skip_len isDig t (skip hostB t i + 1)
        rw [hr] at e2 e3
        rw [e2, e3]
        split
        · rename_i h2; simp [h2]
        · rename_i h2; simp [h2]
    · rw [if_neg h]
      have hn := head_not h
      generalize t.drop (skip hostB t i) = q at hn
      split
      · rename_i q' ; exact absurd rfl (hn _)
      · split
        · rename_i h2; simp [h2, hp]
        · rename_i h2; simp [h2]
  · simp
theorem frR_P (t : Bs) (i : Nat) (a : Adr) (hf : a.frag = []) (hg : a.hasF = false) : fragP (t.drop i) i = if (frR t i a).1 = true then .ok ((frR t i a).2.2.frag, (frR t i a).2.2.hasF) else .error (frR t i a).2.1 := by
  unfold fragP frR
  by_cases h : [35] <+: t.drop i
  · rw [if_pos h]
    have e := (pre_iff _ _ _).1 h
    generalize hr : t.drop (i + 1) = q at e
    rw [e]
    rfl
  · rw [if_neg h]
    have hn := head_not h
    generalize t.drop i = q at hn
    split
    · exact absurd rfl (hn _)
    · simp [hf, hg]
theorem frR_same (t : Bs) (i : Nat) (a : Adr) : (frR t i a).2.2.query = a.query ∧ (frR t i a).2.2.hasQ = a.hasQ ∧ (frR t i a).2.2.path = a.path ∧ (frR t i a).2.2.scheme = a.scheme ∧ (frR t i a).2.2.host = a.host ∧ (frR t i a).2.2.port = a.port := by
  unfold frR; split <;> simp
theorem quR_P (t : Bs) (i : Nat) (a : Adr) (hq : a.query = []) (hr : a.hasQ = false) (hf : a.frag = []) (hg : a.hasF = false) :
    queryP (t.drop i) i = if (quR t i a).1 = true then .ok ((quR t i a).2.2.query, (quR t i a).2.2.hasQ, (quR t i a).2.2.frag, (quR t i a).2.2.hasF) else .error (quR t i a).2.1 := by
  unfold queryP quR
  by_cases h : [63] <+: t.drop i
  · rw [if_pos h]
    have e := (pre_iff _ _ _).1 h
    have hdd := fun k => (List.drop_drop (i := k) (j := i + 1) (l := t))
    generalize hr : t.drop (i + 1) = q at e hdd
    rw [e]
    simp only
    split
    · rw [hdd]
      rw [frR_P t (i + 1 + (rowE [35] q).1) { a with hasQ := true, query := q.take (rowE [35] q).1 } hf hg]
      have hs := frR_same t (i + 1 + (rowE [35] q).1) { a with hasQ := true, query := q.take (rowE [35] q).1 }
      split
      · simp [Except.map, hs]
      · simp [Except.map]
    · simp
  · rw [if_neg h]
    have hn := head_not h
    have hs := frR_same t i a
    have hP := frR_P t i a hf hg
    generalize hq' : t.drop i = q at hn hP
    split
    · exact absurd rfl (hn _)
    · rw [hP]
      split
      · simp [Except.map, hs, hq, hr]
      · simp [Except.map]
theorem quR_same (t : Bs) (i : Nat) (a : Adr) : (quR t i a).2.2.path = a.path ∧ (quR t i a).2.2.scheme = a.scheme ∧ (quR t i a).2.2.host = a.host ∧ (quR t i a).2.2.port = a.port := by
  unfold quR
  split
  · split
    · have := frR_same t (i + 1 + (rowE [35] (t.drop (i + 1))).1) { a with hasQ := true, query := (t.drop (i + 1)).take (rowE [35] (t.drop (i + 1))).1 }
      exact ⟨this.2.2.1, this.2.2.2.1, this.2.2.2.2.1, this.2.2.2.2.2⟩
    · simp
  · have := frR_same t i a
    exact ⟨this.2.2.1, this.2.2.2.1, this.2.2.2.2.1, this.2.2.2.2.2⟩
theorem reR_P (t : Bs) (i : Nat) (a : Adr) (hq : a.query = []) (hr : a.hasQ = false) (hf : a.frag = []) (hg : a.hasF = false) :
    restP (t.drop i) i = if (reR t i a).1 = true then .ok ((reR t i a).2.2.path, (reR t i a).2.2.query, (reR t i a).2.2.hasQ, (reR t i a).2.2.frag, (reR t i a).2.2.hasF) else .error (reR t i a).2.1 := by
  unfold restP reR
  split
  · rw [List.drop_drop]
    rw [quR_P t (i + (rowE [63, 35] (t.drop i)).1) { a with path := (t.drop i).take (rowE [63, 35] (t.drop i)).1 } hq hr hf hg]
    have hs := quR_same t (i + (rowE [63, 35] (t.drop i)).1) { a with path := (t.drop i).take (rowE [63, 35] (t.drop i)).1 }
    split
    · simp [Except.map, hs]
    · simp [Except.map]
  · simp
theorem reR_same (t : Bs) (i : Nat) (a : Adr) : (reR t i a).2.2.scheme = a.scheme ∧ (reR t i a).2.2.host = a.host ∧ (reR t i a).2.2.port = a.port := by
  unfold reR
  split
  · have := quR_same t (i + (rowE [63, 35] (t.drop i)).1) { a with path := (t.drop i).take (rowE [63, 35] (t.drop i)).1 }
    exact ⟨this.2.1, this.2.2.1, this.2.2.2⟩
  · simp
theorem plR_same (t : Bs) (i : Nat) (a : Adr) : (plR t i a).2.2.scheme = a.scheme ∧ (plR t i a).2.2.path = a.path ∧ (plR t i a).2.2.query = a.query ∧ (plR t i a).2.2.hasQ = a.hasQ ∧ (plR t i a).2.2.frag = a.frag ∧ (plR t i a).2.2.hasF = a.hasF := by
  unfold plR
  split
  · split
    · split <;> simp
    · simp
  · simp
/-- What Read finds behind the scheme. -/
theorem readR_P (t s : Bs) (n : Nat) (h : schemeP t = .ok (s, n)) : readP t =
    if (plR t n { Adr.zero with scheme := s }).1 = true then
      (if (reR t (plR t n { Adr.zero with scheme := s }).2.1 (plR t n { Adr.zero with scheme := s }).2.2).1 = true then .ok (reR t (plR t n { Adr.zero with scheme := s }).2.1 (plR t n { Adr.zero with scheme := s }).2.2).2.2
        else .error (reR t (plR t n { Adr.zero with scheme := s }).2.1 (plR t n { Adr.zero with scheme := s }).2.2).2.1)
    else .error (plR t n { Adr.zero with scheme := s }).2.1 := by
  unfold readP
  rw [h]
  have e1 := plR_P t n { Adr.zero with scheme := s } rfl
  have hs := plR_same t n { Adr.zero with scheme := s }
  generalize plR t n { Adr.zero with scheme := s } = x at e1 hs
  have e2 := reR_P t x.2.1 x.2.2 (by rw [hs.2.2.1]) (by rw [hs.2.2.2.1]) (by rw [hs.2.2.2.2.1]) (by rw [hs.2.2.2.2.2])
  have hs2 := reR_same t x.2.1 x.2.2
  generalize reR t x.2.1 x.2.2 = y at e2 hs2
  obtain ⟨b, k, xa⟩ := x
  obtain ⟨b2, k2, ⟨ysc, yh, yp, ypa, yq, yhq, yf, yhf⟩⟩ := y
  simp only at e1 e2 hs hs2 ⊢
  rw [e1]
  cases b
  · rfl
  · simp only [if_true]
    rw [e2]
    cases b2
    · rfl
    · simp only [if_true]
      obtain ⟨h1, h2, h3⟩ := hs2
      rw [h1, h2, h3, hs.1]
end Go.Proofs.YtglonkenckigiaaGreatDoor
