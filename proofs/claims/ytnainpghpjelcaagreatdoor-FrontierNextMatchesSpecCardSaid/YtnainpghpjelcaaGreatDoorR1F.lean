/-
  CHAPTER 1's REFERENCE: the scheme. (WITH run_drawN.)
-/
import Derived.Test.YtnainpghpjelcaaGreatDoorR1D
import Derived.Test.YtnainpghpjelcaaGreatDoorAdG
set_option linter.unusedSimpArgs false
set_option linter.unusedVariables false
namespace Go.Proofs.YtnainpghpjelcaaGreatDoor
open Go.Lw Go.RowKit
set_option maxRecDepth 100000
set_option maxHeartbeats 1000000

def wHttp : Bs := [104, 116, 116, 112]
def wSign : Bs := [58, 47, 47]
theorem pm_append : ∀ (w1 w2 t : Bs), pmatch (w1 ++ w2) t = if pmatch w1 t = w1.length then w1.length + pmatch w2 (t.drop w1.length) else pmatch w1 t
  | [], w2, t => by simp [pmatch]
  | a :: w1, w2, [] => by cases w2 <;> simp [pmatch]
  | a :: w1, w2, b :: t => by
    simp only [List.cons_append, pmatch, List.length_cons, List.drop_succ_cons]
    by_cases h : low b = a
    · simp only [if_pos h, pm_append w1 w2 t]
      by_cases h2 : pmatch w1 t = w1.length
      · rw [if_pos h2, if_pos (by omega)]; omega
      · rw [if_neg h2, if_neg (by omega)]
    · simp only [if_neg h]
      rw [if_neg (by omega)]
theorem low_s (c : UInt8) : low c = 115 ↔ (c.toNat = 115 ∨ c.toNat = 83) := by
  have h1 : ∀ n : Fin 256, (low (UInt8.ofNat n.val) = 115 ↔ ((UInt8.ofNat n.val).toNat = 115 ∨ (UInt8.ofNat n.val).toNat = 83)) := by decide
  have h2 := h1 ⟨c.toNat, c.toNat_lt⟩
  simp only [UInt8.ofNat_toNat] at h2
  exact h2
theorem schP_A {t : Bs} (h : pmatch wHttp t ≠ 4) : schemeP t = .error (pmatch wHttp t) := by
  have e1 : pmatch httpW t = pmatch wHttp t := by
    rw [show httpW = wHttp ++ wSign from rfl, pm_append, show wHttp.length = 4 from rfl, if_neg h]
  have e2 : pmatch httpsW t = pmatch wHttp t := by
    rw [show httpsW = wHttp ++ (115 :: wSign) from rfl, pm_append, show wHttp.length = 4 from rfl, if_neg h]
  have hl : pmatch wHttp t ≤ 4 := pmatch_le wHttp t
  unfold schemeP
  rw [e1, e2, if_neg (by omega), if_neg (by omega), Nat.max_self]
def isS (t : Bs) : Prop := 4 < t.length ∧ ((t[4]?.getD 0).toNat = 115 ∨ (t[4]?.getD 0).toNat = 83)
theorem schP_B1 {t : Bs} (h : pmatch wHttp t = 4) (hs : isS t) : schemeP t = if pmatch wSign (t.drop 5) = 3 then .ok (t.take 5, 8) else .error (5 + pmatch wSign (t.drop 5)) := by
  have hlow := (low_s _).2 hs.2
  have hd : t.drop 4 = t[4]?.getD 0 :: t.drop 5 := drop_get t 4 hs.1
  have e1 : pmatch httpW t = 4 := by
    rw [show httpW = wHttp ++ wSign from rfl, pm_append, show wHttp.length = 4 from rfl, if_pos h, hd]
    simp only [wSign, pmatch]
    rw [hlow, if_neg (by decide)]
  have e2 : pmatch httpsW t = 5 + pmatch wSign (t.drop 5) := by
    rw [show httpsW = wHttp ++ (115 :: wSign) from rfl, pm_append, show wHttp.length = 4 from rfl, if_pos h, hd]
    simp only [pmatch]
    rw [if_pos hlow]
    omega
  unfold schemeP
  rw [e1, e2, if_neg (by omega)]
  by_cases h3 : pmatch wSign (t.drop 5) = 3
  · rw [if_pos (by omega), if_pos h3]
  · rw [if_neg (by omega), if_neg h3, Nat.max_eq_right (by omega)]
theorem schP_B2 {t : Bs} (h : pmatch wHttp t = 4) (hs : ¬ isS t) : schemeP t = if pmatch wSign (t.drop 4) = 3 then .ok (t.take 4, 7) else .error (4 + pmatch wSign (t.drop 4)) := by
  have e1 : pmatch httpW t = 4 + pmatch wSign (t.drop 4) := by
    rw [show httpW = wHttp ++ wSign from rfl, pm_append, show wHttp.length = 4 from rfl, if_pos h]
  have e2 : pmatch httpsW t = 4 := by
    rw [show httpsW = wHttp ++ (115 :: wSign) from rfl, pm_append, show wHttp.length = 4 from rfl, if_pos h]
    rcases Nat.lt_or_ge 4 t.length with hl | hl
    · rw [drop_get t 4 hl]
      simp only [pmatch]
      rw [if_neg (fun e => hs ⟨hl, (low_s _).1 e⟩)]
    · rw [List.drop_of_length_le hl]
      simp [pmatch]
  unfold schemeP
  rw [e1, e2]
  by_cases h3 : pmatch wSign (t.drop 4) = 3
  · rw [if_pos (by omega), if_pos h3]
  · rw [if_neg (by omega), if_neg (by omega), if_neg h3, Nat.max_eq_left (by omega)]
/-- What the reader's scheme gives: the name, the place, the fault. -/
def schQ (t : Bs) : Bs × Nat × Int := match schemeP t with
  | .ok (s, n) => (s, n, -1)
  | .error k => ([], 0, k)
end Go.Proofs.YtnainpghpjelcaaGreatDoor
/-
  CHAPTER 1's REFERENCE: what its reading of path, query and fragment amounts to, in plain Lean.
-/
set_option linter.unusedSimpArgs false
set_option linter.unusedVariables false
namespace Go.Proofs.YtnainpghpjelcaaGreatDoor
open Go.Lw
set_option maxRecDepth 100000
set_option maxHeartbeats 1000000

/-- What the program's reading came to: told by the reference's first fault. -/
def Outc (x : Bool × Nat × Adr) (b : Int) (a : Adr) : Prop := (b < 0 ∧ x.1 = true ∧ x.2.2 = a) ∨ (0 ≤ b ∧ x.1 = false ∧ (x.2.1 : Int) = b)
theorem pre_at (c : UInt8) (t : Bs) (i : Nat) : [c] <+: t.drop i ↔ (i < t.length ∧ ((t[i]?.getD 0).toNat : Int) = c.toNat) := by
  constructor
  · intro h
    have hl := pre_lt h
    have e := (pre_iff c t i).1 h
    rw [drop_get t i hl] at e
    have := (List.cons.inj e).1
    exact ⟨hl, by rw [this]⟩
  · rintro ⟨h1, h2⟩
    rw [pre_iff, drop_get t i h1]
    rw [show t[i]?.getD 0 = c from UInt8.toNat_inj.1 (by omega)]
theorem skip_stop (p : UInt8 → Bool) (t : Bs) (i : Nat) (hi : i ≤ t.length) (h : skip p t i < t.length) : p (t[skip p t i]?.getD 0) = false := by
  generalize hn : t.length - i = n
  induction n using Nat.strongRecOn generalizing i with
  | _ n ih =>
    rcases Nat.lt_or_ge i t.length with hl | hl
    · rw [skip_step p t i hl] at h ⊢
      split
      · rename_i hp
        rw [if_pos hp] at h
        exact ih (t.length - (i + 1)) (by omega) (i + 1) (by omega) h rfl
      · rename_i hp
        simpa using hp
    · rw [skip_end p t i hl] at h
      omega
theorem row_u {w : Bs} (hw : ∀ c, w.contains c = true → isHexB c = false) (t : Bs) (i : Nat) :
    rowE w (t.drop i) = rowE [] ((t.drop i).takeWhile (nw w)) := rowE_until hw _
/-- A row, as both read it. -/
theorem row_two {w : Bs} (hw : ∀ c, w.contains c = true → isHexB c = false) (t : Bs) (i : Nat) (b : Int) (hb : b < 0) :
    (keepB b i ((t.drop i).takeWhile (nw w)) < 0 ∧ (rowE w (t.drop i)).2 = true ∧ i + (rowE w (t.drop i)).1 = skip (nw w) t i ∧ (t.drop i).take (rowE w (t.drop i)).1 = (t.drop i).takeWhile (nw w)) ∨
    (0 ≤ keepB b i ((t.drop i).takeWhile (nw w)) ∧ (rowE w (t.drop i)).2 = false ∧ ((i + (rowE w (t.drop i)).1 : Nat) : Int) = keepB b i ((t.drop i).takeWhile (nw w))) := by
  rw [row_u hw t i]
  have hf := rowE_full ((t.drop i).takeWhile (nw w))
  have htw := (List.prefix_iff_eq_take.1 (List.takeWhile_prefix (l := t.drop i) (nw w))).symm
  have hsk : i + ((t.drop i).takeWhile (nw w)).length = skip (nw w) t i := rfl
  generalize (t.drop i).takeWhile (nw w) = u at hf htw hsk
  unfold keepB rbad
  cases h : (rowE [] u).2
  · right
    have e : (0 : Int) ≤ (if false = true then -1 else ((rowE [] u).1 : Int)) ∧ b < 0 := by simp; omega
    rw [if_pos e]
    simp
    omega
  · left
    have h1 := hf h
    rw [h1, htw]
    simp
    omega
theorem keep_ge {b : Int} (h : 0 ≤ b) (i : Nat) (u : Bs) : keepB b i u = b := by unfold keepB; rw [if_neg (by omega)]
theorem hw35 : ∀ c, ([35] : Bs).contains c = true → isHexB c = false := by
  intro c h
  have : c = 35 := by simpa using h
  rw [this]; decide
theorem hw63 : ∀ c, ([63, 35] : Bs).contains c = true → isHexB c = false := by
  intro c h
  have : c = 63 ∨ c = 35 := by simpa using h
  rcases this with rfl | rfl <;> decide
theorem hw0 : ∀ c, ([] : Bs).contains c = true → isHexB c = false := by intro c h; simp at h
/-- The fragment. -/
theorem fr_two (t : Bs) (i : Nat) (a : Adr) (b : Int) (hb : b < 0) (h : [35] <+: t.drop i) : Outc (frR t i a) (keepB b (i + 1) ((t.drop (i + 1)).takeWhile (nw []))) { a with hasF := true, frag := (t.drop (i + 1)).takeWhile (nw []) } := by
  unfold frR
  rw [if_pos h]
  rcases row_two hw0 t (i + 1) b hb with ⟨h1, h2, h3, h4⟩ | ⟨h1, h2, h3⟩
  · exact .inl ⟨h1, h2, by rw [h4]⟩
  · exact .inr ⟨h1, h2, h3⟩
theorem fr_none (t : Bs) (i : Nat) (a : Adr) (b : Int) (hb : b < 0) (h : ¬ [35] <+: t.drop i) : Outc (frR t i a) b a := by
  unfold frR
  rw [if_neg h]
  exact .inl ⟨hb, rfl, rfl⟩
/-- The query. -/
theorem qu_two (t : Bs) (i : Nat) (a : Adr) (b : Int) (hb : b < 0) (h : [63] <+: t.drop i) :
    (keepB b (i + 1) ((t.drop (i + 1)).takeWhile (nw [35])) < 0 ∧ quR t i a = frR t (skip (nw [35]) t (i + 1)) { a with hasQ := true, query := (t.drop (i + 1)).takeWhile (nw [35]) }) ∨
    (0 ≤ keepB b (i + 1) ((t.drop (i + 1)).takeWhile (nw [35])) ∧ ∀ a', Outc (quR t i a) (keepB b (i + 1) ((t.drop (i + 1)).takeWhile (nw [35]))) a') := by
  unfold quR
  rw [if_pos h]
  rcases row_two hw35 t (i + 1) b hb with ⟨h1, h2, h3, h4⟩ | ⟨h1, h2, h3⟩
  · left
    rw [if_pos h2, h3, h4]
    exact ⟨h1, rfl⟩
  · right
    rw [if_neg (by rw [h2]; decide)]
    exact ⟨h1, fun a' => .inr ⟨h1, rfl, h3⟩⟩
theorem qu_none (t : Bs) (i : Nat) (a : Adr) (h : ¬ [63] <+: t.drop i) : quR t i a = frR t i a := by
  unfold quR; rw [if_neg h]
/-- The path. -/
theorem re_two (t : Bs) (i : Nat) (a : Adr) :
    (keepB (-1) i ((t.drop i).takeWhile (nw [63, 35])) < 0 ∧ reR t i a = quR t (skip (nw [63, 35]) t i) { a with path := (t.drop i).takeWhile (nw [63, 35]) }) ∨
    (0 ≤ keepB (-1) i ((t.drop i).takeWhile (nw [63, 35])) ∧ ∀ a', Outc (reR t i a) (keepB (-1) i ((t.drop i).takeWhile (nw [63, 35]))) a') := by
  unfold reR
  rcases row_two hw63 t i (-1) (by omega) with ⟨h1, h2, h3, h4⟩ | ⟨h1, h2, h3⟩
  · left
    rw [if_pos h2, h3, h4]
    exact ⟨h1, rfl⟩
  · right
    rw [if_neg (by rw [h2]; decide)]
    exact ⟨h1, fun a' => .inr ⟨h1, rfl, h3⟩⟩
section
variable (t : Bs) (i : Nat) (a : Adr)
abbrev u1Q : Bs := (t.drop i).takeWhile (nw [63, 35])
abbrev i1Q : Nat := skip (nw [63, 35]) t i
abbrev b1Q : Int := keepB (-1) i (u1Q t i)
abbrev u2Q : Bs := (t.drop (i1Q t i + 1)).takeWhile (nw [35])
abbrev i2Q : Nat := skip (nw [35]) t (i1Q t i + 1)
abbrev b2Q : Int := keepB (b1Q t i) (i1Q t i + 1) (u2Q t i)
theorem out_qf (hq : [63] <+: t.drop (i1Q t i)) (hf : [35] <+: t.drop (i2Q t i)) :
    Outc (reR t i a) (keepB (b2Q t i) (i2Q t i + 1) ((t.drop (i2Q t i + 1)).takeWhile (nw []))) { a with path := u1Q t i, hasQ := true, query := u2Q t i, hasF := true, frag := (t.drop (i2Q t i + 1)).takeWhile (nw []) } := by
  rcases re_two t i a with ⟨h1, e1⟩ | ⟨h1, e1⟩
  · rw [e1]
    rcases qu_two t (i1Q t i) { a with path := u1Q t i } _ h1 hq with ⟨h2, e2⟩ | ⟨h2, e2⟩
    · rw [e2]
      exact fr_two t (i2Q t i) _ _ h2 hf
    · rw [keep_ge h2]
      exact e2 _
  · rw [show b2Q t i = b1Q t i from keep_ge h1 _ _, keep_ge h1]
    exact e1 _
theorem out_q (hq : [63] <+: t.drop (i1Q t i)) (hf : ¬ [35] <+: t.drop (i2Q t i)) :
    Outc (reR t i a) (b2Q t i) { a with path := u1Q t i, hasQ := true, query := u2Q t i } := by
  rcases re_two t i a with ⟨h1, e1⟩ | ⟨h1, e1⟩
  · rw [e1]
    rcases qu_two t (i1Q t i) { a with path := u1Q t i } _ h1 hq with ⟨h2, e2⟩ | ⟨h2, e2⟩
    · rw [e2]
      exact fr_none t (i2Q t i) _ _ h2 hf
    · exact e2 _
  · rw [show b2Q t i = b1Q t i from keep_ge h1 _ _]
    exact e1 _
theorem out_f (hq : ¬ [63] <+: t.drop (i1Q t i)) (hf : [35] <+: t.drop (i1Q t i)) :
    Outc (reR t i a) (keepB (b1Q t i) (i1Q t i + 1) ((t.drop (i1Q t i + 1)).takeWhile (nw []))) { a with path := u1Q t i, hasF := true, frag := (t.drop (i1Q t i + 1)).takeWhile (nw []) } := by
  rcases re_two t i a with ⟨h1, e1⟩ | ⟨h1, e1⟩
  · rw [e1, qu_none t _ _ hq]
    exact fr_two t (i1Q t i) _ _ h1 hf
  · rw [keep_ge h1]
    exact e1 _
theorem out_no (hq : ¬ [63] <+: t.drop (i1Q t i)) (hf : ¬ [35] <+: t.drop (i1Q t i)) :
    Outc (reR t i a) (b1Q t i) { a with path := u1Q t i } := by
  rcases re_two t i a with ⟨h1, e1⟩ | ⟨h1, e1⟩
  · rw [e1, qu_none t _ _ hq]
    exact fr_none t (i1Q t i) _ _ h1 hf
  · exact e1 _
end
theorem stop35 (t : Bs) (i : Nat) (hi : i ≤ t.length) : [35] <+: t.drop (skip (nw [35]) t i) ↔ skip (nw [35]) t i < t.length := by
  rw [pre_at]
  refine ⟨fun h => h.1, fun h => ⟨h, ?_⟩⟩
  have := skip_stop (nw [35]) t i hi h
  simp only [nw, Bool.not_eq_false', List.contains_cons, List.contains_nil, Bool.or_false, beq_iff_eq] at this
  rw [this]
theorem stop63 (t : Bs) (i : Nat) (hi : i ≤ t.length) (hq : ¬ [63] <+: t.drop (skip (nw [63, 35]) t i)) : [35] <+: t.drop (skip (nw [63, 35]) t i) ↔ skip (nw [63, 35]) t i < t.length := by
  rw [pre_at]
  refine ⟨fun h => h.1, fun h => ⟨h, ?_⟩⟩
  have := skip_stop (nw [63, 35]) t i hi h
  simp only [nw, Bool.not_eq_false', List.contains_cons, List.contains_nil, Bool.or_false, Bool.or_eq_true, beq_iff_eq] at this
  rcases this with e | e
  · exact absurd ((pre_at 63 t _).2 ⟨h, by rw [e]⟩) hq
  · rw [e]
/-- The whole, by the reference's first fault. -/
def readQ (t : Bs) : Adr × Int := match readP t with
  | .ok a => (a, -1)
  | .error n => (Adr.zero, n)
theorem readQ_of {t s : Bs} {n i : Nat} {a0 a : Adr} {b : Int} (hs : schemeP t = .ok (s, n)) (hp : plR t n { Adr.zero with scheme := s } = (true, i, a0)) (ho : Outc (reR t i a0) b a) :
    readQ t = if b < 0 then (a, -1) else (Adr.zero, b) := by
  have h := readR_P t s n hs
  rw [hp] at h
  simp only [if_true] at h
  unfold readQ
  rw [h]
  rcases ho with ⟨h1, h2, h3⟩ | ⟨h1, h2, h3⟩
  · rw [if_pos h2, if_pos h1, h3]
  · rw [if_neg (by rw [h2]; decide), if_neg (by omega)]
    simp only
    rw [h3]
theorem readQ_no {t s : Bs} {n i : Nat} {a0 : Adr} (hs : schemeP t = .ok (s, n)) (hp : plR t n { Adr.zero with scheme := s } = (false, i, a0)) : readQ t = (Adr.zero, (i : Int)) := by
  have h := readR_P t s n hs
  rw [hp] at h
  simp only at h
  unfold readQ
  rw [h]
  rfl
theorem readQ_sch {t : Bs} {k : Nat} (hs : schemeP t = .error k) : readQ t = (Adr.zero, (k : Int)) := by
  unfold readQ readP
  rw [hs]
end Go.Proofs.YtnainpghpjelcaaGreatDoor
