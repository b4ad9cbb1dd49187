/-
  ADDRESS: what a text that Relative wrote means: Trim, row, meant. (WITH run_drawN.)
-/
import Derived.Test.YtnainpghpjelcaaGreatDoorR1F
import Derived.Test.YtnainpghpjelcaaGreatDoorAdH
import Derived.Test.YtnainpghpjelcaaGreatDoorAdW
import Derived.Test.YtnainpghpjelcaaGreatDoorAdM
set_option linter.unusedSimpArgs false
set_option linter.unusedVariables false
namespace Go.Proofs.YtnainpghpjelcaaGreatDoor
open Go.Lw Go.RowKit
set_option maxRecDepth 100000
set_option maxHeartbeats 1000000

def blanks : Bs := [9, 10, 12, 13, 32]
theorem row_nobad : ∀ u : Bs, rowE [] u = (u.length, true) → ∀ c ∈ u, badB c = false
  | [], _, c, hc => by cases hc
  | b :: r, h, c, hc => by
    rw [rowE.eq_def] at h
    simp only at h
    rw [if_neg (show ¬ ([] : Bs).contains b = true by simp)] at h
    by_cases h2 : badB b = true
    · rw [if_pos h2] at h; simp at h
    rw [if_neg h2] at h
    have hb : badB b = false := by simpa using h2
    by_cases h3 : b = 37
    · rw [if_pos h3] at h
      match r, h, hc with
      | [], h, hc => simp at h
      | [_], h, hc => simp at h
      | x :: y :: r2, h, hc =>
        simp only at h
        by_cases h4 : isHexB x = true ∧ isHexB y = true
        · rw [if_pos h4] at h
          have h5 : rowE [] r2 = (r2.length, true) := by
            have e1 := congrArg Prod.fst h
            have e2 := congrArg Prod.snd h
            simp only [List.length_cons] at e1 e2
            exact Prod.ext (by simp only; omega) e2
          rcases List.mem_cons.1 hc with rfl | hc
          · exact hb
          rcases List.mem_cons.1 hc with rfl | hc
          · exact (hex_row h4.1).1
          rcases List.mem_cons.1 hc with rfl | hc
          · exact (hex_row h4.2).1
          · exact row_nobad r2 h5 c hc
        · rw [if_neg h4] at h; simp at h
    · rw [if_neg h3] at h
      have h5 : rowE [] r = (r.length, true) := by
        have e1 := congrArg Prod.fst h
        have e2 := congrArg Prod.snd h
        simp only [List.length_cons] at e1 e2
        exact Prod.ext (by simp only; omega) e2
      rcases List.mem_cons.1 hc with rfl | hc
      · exact hb
      · exact row_nobad r h5 c hc
theorem row_free {w : Bs} (hw : ∀ c, w.contains c = true → isHexB c = false) {s : Bs} (h : isRow w s) : (∀ c ∈ s, badB c = false) ∧ (∀ c ∈ s, w.contains c = false) := by
  unfold isRow at h
  have h1 := rowE_until hw s
  rw [h] at h1
  have hle := rowE_le [] (s.takeWhile (nw w))
  rw [← h1] at hle
  have hpre := List.takeWhile_prefix (l := s) (nw w)
  have hu : s.takeWhile (nw w) = s := hpre.eq_of_length_le hle
  rw [hu] at h1
  refine ⟨row_nobad s h1.symm, fun c hc => ?_⟩
  rw [← hu] at hc
  have := List.all_eq_true.1 (List.all_takeWhile (l := s) (p := nw w)) c hc
  unfold nw at this
  simpa using this
/-! What behindA is cut into. -/
end Go.Proofs.YtnainpghpjelcaaGreatDoor
/-
  ADDRESS: Resolve of what Relative wrote; Relative; AddressRelativesResolve's own walk. (WITH run_drawN.)
-/
set_option linter.unusedSimpArgs false
set_option linter.unusedVariables false
namespace Go.Proofs.YtnainpghpjelcaaGreatDoor
open Go.Lw Go.RowKit Go.ChangeShapes Go.WideShapes Go.ChangeAt
set_option maxRecDepth 100000
set_option maxHeartbeats 1000000

theorem bad_33 {c : UInt8} (h : badB c = false) : 33 ≤ c.toNat := by
  simp only [badB, Bool.or_eq_false_iff, decide_eq_false_iff_not] at h
  omega
theorem host_33 {c : UInt8} (h : hostB c = true) : 33 ≤ c.toNat := by
  simp only [hostB, isLet, isLo, isUp, isDig, Bool.or_eq_true, Bool.and_eq_true, decide_eq_true_eq] at h
  omega
theorem sch_let {s : Bs} (h : okS s) : s.all isLet = true ∧ s ≠ [] := by
  have key : ∀ n : Fin 256, isLet (low (UInt8.ofNat n.val)) = true → isLet (UInt8.ofNat n.val) = true := by decide
  have hk : ∀ c : UInt8, isLet (low c) = true → isLet c = true := by
    intro c hc
    have h2 := key ⟨c.toNat, c.toNat_lt⟩
    simp only [UInt8.ofNat_toNat] at h2
    exact h2 hc
  have hs : (small s).all isLet = true ∧ small s ≠ [] := by
    rcases h with h | h <;> rw [h] <;> decide
  refine ⟨?_, fun e => hs.2 (by rw [e]; rfl)⟩
  rw [List.all_eq_true]
  intro c hc
  exact hk c (List.all_eq_true.1 hs.1 _ (List.mem_map.2 ⟨c, hc, rfl⟩))
theorem let_33 {c : UInt8} (h : isLet c = true) : 33 ≤ c.toNat := host_33 (by simp [hostB, h])
theorem behind_33 {a : Adr} (h : ChkA a) : ∀ c ∈ behindA a, 33 ≤ c.toNat := by
  intro c hc
  have hp := (row_free (w := [63]) (by intro c hc; have : c = 63 := by simpa using hc
                                       rw [this]; decide) h.path).1
  have hq := (row_free hw0 h.query).1
  have hf := (row_free hw0 h.frag).1
  unfold behindA at hc
  rcases List.mem_append.1 hc with hc | hc
  · rcases List.mem_append.1 hc with hc | hc
    · exact bad_33 (hp c hc)
    · unfold qPart at hc
      split at hc
      · rcases List.mem_cons.1 hc with rfl | hc
        · decide
        · exact bad_33 (hq c hc)
      · cases hc
  · unfold fPart at hc
    split at hc
    · rcases List.mem_cons.1 hc with rfl | hc
      · decide
      · exact bad_33 (hf c hc)
    · cases hc
theorem write_33 {a : Adr} (h : ChkA a) : ∀ c ∈ writeA a, 33 ≤ c.toNat := by
  intro c hc
  unfold writeA at hc
  rcases List.mem_append.1 hc with hc | hc
  · rcases List.mem_append.1 hc with hc | hc
    · rcases List.mem_append.1 hc with hc | hc
      · rcases List.mem_append.1 hc with hc | hc
        · exact let_33 (List.all_eq_true.1 (sch_let h.sch).1 c hc)
        · have : ∀ x ∈ ([58, 47, 47] : Bs), 33 ≤ x.toNat := by decide
          exact this c hc
      · exact host_33 (List.all_eq_true.1 (host_bytes h.host) c hc)
    · unfold pPart at hc
      split at hc
      · cases hc
      · rename_i hne
        rcases List.mem_cons.1 hc with rfl | hc
        · decide
        · rcases h.port with e | e
          · exact absurd e hne
          · have := List.all_eq_true.1 (port_digits e).2 c hc
            exact host_33 (by simp [hostB, this])
  · exact behind_33 h c hc
def relC (b a : Adr) : Bs × Nat :=
  if chkC b ≠ 0 then ([], chkC b) else if chkC a ≠ 0 then ([], chkC a) else if undotP a.path ≠ a.path then ([], 11)
  else if a.scheme = b.scheme ∧ a.host = b.host ∧ a.port = b.port ∧ a.path ≠ [] ∧ ¬ [47, 47] <+: a.path then (behindA a, 0) else (writeA a, 0)
end Go.Proofs.YtnainpghpjelcaaGreatDoor
