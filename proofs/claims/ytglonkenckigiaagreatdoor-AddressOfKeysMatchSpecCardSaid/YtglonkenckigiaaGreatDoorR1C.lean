/-
  CHAPTER 1's REFERENCE: rows, schemes. (WITH run_drawN.)
-/
import Derived.Test.YtglonkenckigiaaGreatDoorR1A
import Derived.Test.YtglonkenckigiaaGreatDoorAdD
set_option linter.unusedSimpArgs false
set_option linter.unusedVariables false
namespace Go.Proofs.YtglonkenckigiaaGreatDoor
open Go.Lw Go.RowKit
set_option maxRecDepth 100000
set_option maxHeartbeats 1000000

/-! Rows, as the reference reads them. -/
def nw (w : Bs) (c : UInt8) : Bool := !w.contains c
theorem rowE_until {w : Bs} (hw : ∀ c, w.contains c = true → isHexB c = false) : ∀ r : Bs, rowE w r = rowE [] (r.takeWhile (nw w))
  | [] => rfl
  | c :: r => by
    by_cases h1 : w.contains c = true
    · rw [List.takeWhile_cons_of_neg (by unfold nw; rw [h1]; decide), rowE.eq_def]
      simp only
      rw [if_pos h1]
      rfl
    have h1' : nw w c = true := by unfold nw; simpa using h1
    rw [List.takeWhile_cons_of_pos h1', rowE.eq_def w, rowE.eq_def []]
    simp only
    rw [if_neg h1, if_neg (show ¬ ([] : Bs).contains c = true by simp)]
    by_cases h2 : badB c = true
    · rw [if_pos h2, if_pos h2]
    rw [if_neg h2, if_neg h2]
    by_cases h3 : c = 37
    · rw [if_pos h3, if_pos h3]
      match r with
      | [] => rfl
      | [h] =>
        by_cases hh : nw w h = true
        · rw [List.takeWhile_cons_of_pos hh]; rfl
        · rw [List.takeWhile_cons_of_neg hh]
      | h :: k :: r2 =>
        by_cases hh : nw w h = true
        · by_cases hk : nw w k = true
          · rw [List.takeWhile_cons_of_pos hh, List.takeWhile_cons_of_pos hk]
            simp only
            rw [rowE_until hw r2]
          · rw [List.takeWhile_cons_of_pos hh, List.takeWhile_cons_of_neg hk]
            have : isHexB k = false := hw k (by unfold nw at hk; simpa using hk)
            simp only
            rw [if_neg (by rw [this]; simp)]
        · rw [List.takeWhile_cons_of_neg hh]
          have : isHexB h = false := hw h (by unfold nw at hh; simpa using hh)
          simp only
          rw [if_neg (by rw [this]; simp)]
    · rw [if_neg h3, if_neg h3, rowE_until hw r]
theorem rowE_full : ∀ u : Bs, (rowE [] u).2 = true → (rowE [] u).1 = u.length
  | [], _ => rfl
  | c :: r, h => by
    rw [rowE.eq_def] at h ⊢
    simp only at h ⊢
    rw [if_neg (show ¬ ([] : Bs).contains c = true by simp)] at h ⊢
    by_cases h2 : badB c = true
    · rw [if_pos h2] at h; cases h
    rw [if_neg h2] at h ⊢
    by_cases h3 : c = 37
    · rw [if_pos h3] at h ⊢
      match r with
      | [] => cases h
      | [_] => cases h
      | x :: y :: r2 =>
        simp only at h ⊢
        by_cases h4 : isHexB x = true ∧ isHexB y = true
        · rw [if_pos h4] at h ⊢
          have := rowE_full r2 h
          simp [this]
        · rw [if_neg h4] at h; cases h
    · rw [if_neg h3] at h ⊢
      have := rowE_full r h
      simp [this]
theorem hex_row {c : UInt8} (h : isHexB c = true) : badB c = false ∧ ¬ c = 37 := by
  have h1 : ∀ n : Fin 256, isHexB (UInt8.ofNat n.val) = true → badB (UInt8.ofNat n.val) = false ∧ ¬ UInt8.ofNat n.val = 37 := by decide
  have h2 := h1 ⟨c.toNat, c.toNat_lt⟩
  simp only [UInt8.ofNat_toNat] at h2
  exact h2 h
theorem rowAt_hex {s : Bs} {j : Nat} (h : j < s.length) (hx : isHexB (s[j]?.getD 0) = true) : rowAt [] s j = rowAt [] s (j + 1) := by
  obtain ⟨h1, h2⟩ := hex_row hx
  rw [rowAt_step [] s j h, if_neg (by simp), if_neg (by rw [h1]; decide), if_neg h2]
/-- The first place at which a text is no row. -/
def rbad (s : Bs) : Int := if (rowE [] s).2 = true then -1 else (rowE [] s).1
theorem qHex_ok (c : UInt8) : FnOk Tryz.prog 138 [u8 c] (tru (isHexB c)) := by
  refine fnOk Tryz.func138 rfl (by kernel_rfl) Tryz.ntmps138 _ rfl (by simp) fun C hc => ?_
  repeat' (first | (first | refine ewp_seq ?_ | refine run_region hc (by simp; exact Ends.go) (by first | exact True.intro | omega | assumption | (simp; done) | (simp; omega) | (simp at *; omega)) ?_ | refine run_draw hc (by kernel_rfl) (by kernel_rfl) (by simp; exact Ends.go) (by first | exact True.intro | omega | assumption | (simp; done) | (simp; omega) | (simp at *; omega)) ?_ | refine ewp_scope ?_ | refine scopeQ_normal ?_ | refine scopeQ_ret ?_ | refine scopeQ_exit ?_ | refine ewp_skip ?_ | refine ewp_block ?_ | refine ewp_exit ?_ | refine ewp_label ?_ | refine thenQ_normal ?_ | refine thenQ_ret ?_ | refine thenQ_exit ?_ | refine blockQ_normal ?_ | refine blockQ_ret ?_ | refine blockQ_here ?_ | refine blockQ_there (by decide) ?_ | refine ewp_ret ?_ | refine opsW_nil ?_ | refine quietW_nil ?_ | (refine run_cond (by simp; exact Gives.mk) (fun hb => ?_) (fun hb => ?_) <;> (try simp at hb)) | fail) | (first | refine run_callW hc (by simp; exact Gives.mk) (by simp; exact Gives.mk) (by simp; exact Gives.mk) (by simp; exact Gives.mk) (by simp; exact Gives.mk) (fun _ => by first | exact qDigit_ok _) (by simp) (by simp) ?_ | refine run_callQ hc (by simp; exact Gives.mk) (by simp; exact Gives.mk) (by simp; exact Gives.mk) (by simp; exact Gives.mk) (by simp; exact Gives.mk) (fun _ => by first | exact qDigit_ok _) (by simp) (by simp) ?_ | refine run_ops hc (by simp; first | exact Ends.go | exact Ends.halt) (by decide) (by first | exact True.intro | omega | assumption | (simp; done) | (simp; omega) | (simp at *; omega)) ?_ | refine run_quiet hc (by simp; first | exact Ends.go | exact Ends.halt) (by decide) (by first | exact True.intro | omega | assumption | (simp; done) | (simp; omega) | (simp at *; omega)) ?_ | refine run_regionW hc (by simp; exact Ends.halt) (by first | exact True.intro | omega | assumption | (simp; done) | (simp; omega) | (simp at *; omega)) ?_ | refine run_drawN hc (by kernel_rfl) (by decide) (by kernel_rfl) (by simp; exact Ends.halt) (by first | exact True.intro | omega | assumption | (simp; done) | (simp; omega) | (simp at *; omega)) ?_ | fail))
  (refine run_leave hc (by simp; exact Gives.mk) ?_)
  refine res_bool ?_
  rw [Bool.eq_iff_iff]; cases h : isDig c <;> simp [isHexB, h] <;> omega
theorem qRowByte_ok (c : UInt8) : FnOk Tryz.prog 137 [u8 c] (tru (!badB c)) := by
  refine fnOk Tryz.func137 rfl (by kernel_rfl) Tryz.ntmps137 _ rfl (by simp) fun C hc => ?_
  have hn := has_iff [34, 35, 60, 62, 92, 94, 123, 124, 125] c
  have h96 := toNat_sign c 96 (by omega)
  have hm : noRow.contains c = true ↔ ([34, 35, 60, 62, 92, 94, 123, 124, 125] : Bs).contains c = true ∨ c = 96 := by simp [noRow, or_assoc]
  have hb := badB_iff c
  repeat' (first | (first | refine ewp_seq ?_ | refine run_region hc (by simp; exact Ends.go) (by first | exact True.intro | omega | assumption | (simp; done) | (simp; omega) | (simp at *; omega)) ?_ | refine run_draw hc (by kernel_rfl) (by kernel_rfl) (by simp; exact Ends.go) (by first | exact True.intro | omega | assumption | (simp; done) | (simp; omega) | (simp at *; omega)) ?_ | refine ewp_scope ?_ | refine scopeQ_normal ?_ | refine scopeQ_ret ?_ | refine scopeQ_exit ?_ | refine ewp_skip ?_ | refine ewp_block ?_ | refine ewp_exit ?_ | refine ewp_label ?_ | refine thenQ_normal ?_ | refine thenQ_ret ?_ | refine thenQ_exit ?_ | refine blockQ_normal ?_ | refine blockQ_ret ?_ | refine blockQ_here ?_ | refine blockQ_there (by decide) ?_ | refine ewp_ret ?_ | refine opsW_nil ?_ | refine quietW_nil ?_ | (refine run_cond (by simp; exact Gives.mk) (fun hb => ?_) (fun hb => ?_) <;> (try simp at hb)) | fail) | (first | refine run_callW hc (by simp; exact Gives.mk) (by simp; exact Gives.mk) (by simp; exact Gives.mk) (by simp; exact Gives.mk) (by simp; exact Gives.mk) (fun _ => by first | exact indexByte_ok _ _) (by simp) (by simp) ?_ | refine run_callQ hc (by simp; exact Gives.mk) (by simp; exact Gives.mk) (by simp; exact Gives.mk) (by simp; exact Gives.mk) (by simp; exact Gives.mk) (fun _ => by first | exact indexByte_ok _ _) (by simp) (by simp) ?_ | refine run_ops hc (by simp; first | exact Ends.go | exact Ends.halt) (by decide) (by first | exact True.intro | omega | assumption | (simp; done) | (simp; omega) | (simp at *; omega)) ?_ | refine run_quiet hc (by simp; first | exact Ends.go | exact Ends.halt) (by decide) (by first | exact True.intro | omega | assumption | (simp; done) | (simp; omega) | (simp at *; omega)) ?_ | refine run_regionW hc (by simp; exact Ends.halt) (by first | exact True.intro | omega | assumption | (simp; done) | (simp; omega) | (simp at *; omega)) ?_ | refine run_drawN hc (by kernel_rfl) (by decide) (by kernel_rfl) (by simp; exact Ends.halt) (by first | exact True.intro | omega | assumption | (simp; done) | (simp; omega) | (simp at *; omega)) ?_ | fail))
  (refine run_leave hc (by simp; exact Gives.mk) ?_)
  refine res_bool ?_
  rw [Bool.eq_iff_iff]
  rw [Bool.not_eq_true', ← Bool.not_eq_true, hb, hm, hn]
  simp only [show UInt8.ofNat 96 = (96 : UInt8) from rfl] at h96
  rw [← h96]
  simp
  omega
theorem qRowBad_ok (s : Bs) (hm : s.length ≤ 4611686018427387904) : FnOk Tryz.prog 97 [str s, u8 0] (int (rbad s)) := by
  refine fnOk Tryz.func97 rfl (by kernel_rfl) Tryz.ntmps97 _ rfl (by simp) fun C hc => ?_
  have e0 : rbad s = if (rowAt [] s 0).2 = true then -1 else ((rowAt [] s 0).1 : Int) := by rw [rowAt_zero]; rfl
  rw [e0]
  repeat' (first | (first | refine ewp_seq ?_ | refine run_region hc (by simp; exact Ends.go) (by first | exact True.intro | omega | assumption | (simp; done) | (simp; omega) | (simp at *; omega)) ?_ | refine run_draw hc (by kernel_rfl) (by kernel_rfl) (by simp; exact Ends.go) (by first | exact True.intro | omega | assumption | (simp; done) | (simp; omega) | (simp at *; omega)) ?_ | refine ewp_scope ?_ | refine scopeQ_normal ?_ | refine scopeQ_ret ?_ | refine scopeQ_exit ?_ | refine ewp_skip ?_ | refine ewp_block ?_ | refine ewp_exit ?_ | refine ewp_label ?_ | refine thenQ_normal ?_ | refine thenQ_ret ?_ | refine thenQ_exit ?_ | refine blockQ_normal ?_ | refine blockQ_ret ?_ | refine blockQ_here ?_ | refine blockQ_there (by decide) ?_ | refine ewp_ret ?_ | refine opsW_nil ?_ | refine quietW_nil ?_ | (refine run_cond (by simp; exact Gives.mk) (fun hb => ?_) (fun hb => ?_) <;> (try simp at hb)) | fail) | (first | refine run_callW hc (by simp; exact Gives.mk) (by simp; exact Gives.mk) (by simp; exact Gives.mk) (by simp; exact Gives.mk) (by simp; exact Gives.mk) (fun _ => by first | exact trivial) (by simp) (by simp) ?_ | refine run_callQ hc (by simp; exact Gives.mk) (by simp; exact Gives.mk) (by simp; exact Gives.mk) (by simp; exact Gives.mk) (by simp; exact Gives.mk) (fun _ => by first | exact trivial) (by simp) (by simp) ?_ | refine run_ops hc (by simp; first | exact Ends.go | exact Ends.halt) (by decide) (by first | exact True.intro | omega | assumption | (simp; done) | (simp; omega) | (simp at *; omega)) ?_ | refine run_quiet hc (by simp; first | exact Ends.go | exact Ends.halt) (by decide) (by first | exact True.intro | omega | assumption | (simp; done) | (simp; omega) | (simp at *; omega)) ?_ | refine run_regionW hc (by simp; exact Ends.halt) (by first | exact True.intro | omega | assumption | (simp; done) | (simp; omega) | (simp at *; omega)) ?_ | refine run_drawN hc (by kernel_rfl) (by decide) (by kernel_rfl) (by simp; exact Ends.halt) (by first | exact True.intro | omega | assumption | (simp; done) | (simp; omega) | (simp at *; omega)) ?_ | fail))
  refine ewp_loop (fun j : Nat => ⟨[(0, .d (str s)), (1, .d (u8 0)), (5, .d (int j))], []⟩) (fun j => j ≤ s.length ∧ rowAt [] s 0 = rowAt [] s j) (fun j => s.length - j) 0 (by simp) (run_keep [0, 1, 5] [] (by simp; exact Gives.mk) (by simp; exact Gives.mk)) ?_
  rintro j ⟨h1, h2⟩
  rw [h2]
  have hst := fun h => rowAt_step [] s j h
  have hni : ¬ ([] : Bs).contains (s[j]?.getD 0) = true := by simp
  have h37 := toNat_sign (s[j]?.getD 0) 37 (by omega)
  simp only [show UInt8.ofNat 37 = (37 : UInt8) from rfl] at h37
  repeat' (first | (first | refine ewp_seq ?_ | refine run_region hc (by simp; exact Ends.go) (by first | exact True.intro | omega | assumption | (simp; done) | (simp; omega) | (simp at *; omega)) ?_ | refine run_draw hc (by kernel_rfl) (by kernel_rfl) (by simp; exact Ends.go) (by first | exact True.intro | omega | assumption | (simp; done) | (simp; omega) | (simp at *; omega)) ?_ | refine ewp_scope ?_ | refine scopeQ_normal ?_ | refine scopeQ_ret ?_ | refine scopeQ_exit ?_ | refine ewp_skip ?_ | refine ewp_block ?_ | refine ewp_exit ?_ | refine ewp_label ?_ | refine thenQ_normal ?_ | refine thenQ_ret ?_ | refine thenQ_exit ?_ | refine blockQ_normal ?_ | refine blockQ_ret ?_ | refine blockQ_here ?_ | refine blockQ_there (by decide) ?_ | refine ewp_ret ?_ | refine opsW_nil ?_ | refine quietW_nil ?_ | (refine run_cond (by simp; exact Gives.mk) (fun hb => ?_) (fun hb => ?_) <;> (try simp at hb)) | fail) | (first | refine run_callW hc (by simp; exact Gives.mk) (by simp; exact Gives.mk) (by simp; exact Gives.mk) (by simp; exact Gives.mk) (by simp; exact Gives.mk) (fun _ => by first | exact qRowByte_ok _ | exact qHex_ok _) (by simp) (by simp) ?_ | refine run_callQ hc (by simp; exact Gives.mk) (by simp; exact Gives.mk) (by simp; exact Gives.mk) (by simp; exact Gives.mk) (by simp; exact Gives.mk) (fun _ => by first | exact qRowByte_ok _ | exact qHex_ok _) (by simp) (by simp) ?_ | refine run_ops hc (by simp; first | exact Ends.go | exact Ends.halt) (by decide) (by first | exact True.intro | omega | assumption | (simp; done) | (simp; omega) | (simp at *; omega)) ?_ | refine run_quiet hc (by simp; first | exact Ends.go | exact Ends.halt) (by decide) (by first | exact True.intro | omega | assumption | (simp; done) | (simp; omega) | (simp at *; omega)) ?_ | refine run_regionW hc (by simp; exact Ends.halt) (by first | exact True.intro | omega | assumption | (simp; done) | (simp; omega) | (simp at *; omega)) ?_ | refine run_drawN hc (by kernel_rfl) (by decide) (by kernel_rfl) (by simp; exact Ends.halt) (by first | exact True.intro | omega | assumption | (simp; done) | (simp; omega) | (simp at *; omega)) ?_ | fail))
  · have hbad : badB (s[j]?.getD 0) = true := by
      rcases hb with h | h
      · exact h
      · rw [badB_iff]; exact .inl (.inl (by omega))
    rw [hst (by omega), if_neg hni, if_pos hbad]
    (refine run_leave hc (by simp; exact Gives.mk) ?_)
    simp
  · rename_i hlt hg
    have e : rowAt [] s j = (j, false) := by
      rw [hst (by omega), if_neg hni, if_neg (by rw [hg.1]; decide), if_pos (h37.1 (by omega)), if_neg (fun e => by
        rcases hb.2 with (h | h) | h
        · omega
        · rw [e.2.1] at h; cases h
        · rw [e.2.2] at h; cases h)]
    rw [e]
    (refine run_leave hc (by simp; exact Gives.mk) ?_)
    simp
  · rename_i hlt hg
    refine ⟨j + 1, ⟨by omega, ?_⟩, by omega, run_back [0, 1, 5] [] (by simp; exact Gives.mk) (by simp; exact Gives.mk) (by simp)⟩
    rw [hst (by omega), if_neg hni, if_neg (by rw [hg.1]; decide)]
    by_cases h : s[j]?.getD 0 = 37
    · have h4 := hb (by have := h37.2 h; omega)
      rw [if_pos h, if_pos ⟨by omega, h4.1.2, h4.2⟩, rowAt_hex (by omega) h4.1.2, rowAt_hex (by omega) h4.2]
    · rw [if_neg h]
  · rw [rowAt_end [] s j (by omega)]
    (refine run_leave hc (by simp; exact Gives.mk) ?_)
    simp
/-! Words. -/
def pass (t w : Bs) (i : Nat) : Int := if pmatch w (t.drop i) = w.length then -1 else ((i + pmatch w (t.drop i) : Nat) : Int)
theorem pmAt_le (w t : Bs) (n : Nat) (h : n ≤ w.length) : n ≤ pmAt w t n ∧ pmAt w t n ≤ w.length := by
  have := pmatch_le (w.drop n) (t.drop n)
  simp at this
  unfold pmAt
  omega
theorem one_shift (t : Bs) (i j : Nat) (h : i + j < t.length) : ((t.drop i).take (j + 1)).drop j = (t.take (i + j + 1)).drop (i + j) := by
  rw [one_at (t.drop i) j (by simp; omega), one_at t (i + j) h, List.getElem?_drop]
theorem qPassed_ok (t w : Bs) (i : Nat) (hm : t.length ≤ 4611686018427387904) (hw : w.length ≤ 1000) (hi : i ≤ 1000) : FnOk Tryz.prog 169 [str t, str w, int i] (int (pass t w i)) := by
  refine fnOk Tryz.func169 rfl (by kernel_rfl) Tryz.ntmps169 _ rfl (by simp) fun C hc => ?_
  have e0 : pass t w i = if pmAt w (t.drop i) 0 = w.length then -1 else ((i + pmAt w (t.drop i) 0 : Nat) : Int) := by rw [pmAt_zero]; rfl
  rw [e0]
  repeat' (first | (first | refine ewp_seq ?_ | refine run_region hc (by simp; exact Ends.go) (by first | exact True.intro | omega | assumption | (simp; done) | (simp; omega) | (simp at *; omega)) ?_ | refine run_draw hc (by kernel_rfl) (by kernel_rfl) (by simp; exact Ends.go) (by first | exact True.intro | omega | assumption | (simp; done) | (simp; omega) | (simp at *; omega)) ?_ | refine ewp_scope ?_ | refine scopeQ_normal ?_ | refine scopeQ_ret ?_ | refine scopeQ_exit ?_ | refine ewp_skip ?_ | refine ewp_block ?_ | refine ewp_exit ?_ | refine ewp_label ?_ | refine thenQ_normal ?_ | refine thenQ_ret ?_ | refine thenQ_exit ?_ | refine blockQ_normal ?_ | refine blockQ_ret ?_ | refine blockQ_here ?_ | refine blockQ_there (by decide) ?_ | refine ewp_ret ?_ | refine opsW_nil ?_ | refine quietW_nil ?_ | (refine run_cond (by simp; exact Gives.mk) (fun hb => ?_) (fun hb => ?_) <;> (try simp at hb)) | fail) | (first | refine run_callW hc (by simp; exact Gives.mk) (by simp; exact Gives.mk) (by simp; exact Gives.mk) (by simp; exact Gives.mk) (by simp; exact Gives.mk) (fun _ => by first | exact trivial) (by simp) (by simp) ?_ | refine run_callQ hc (by simp; exact Gives.mk) (by simp; exact Gives.mk) (by simp; exact Gives.mk) (by simp; exact Gives.mk) (by simp; exact Gives.mk) (fun _ => by first | exact trivial) (by simp) (by simp) ?_ | refine run_ops hc (by simp; first | exact Ends.go | exact Ends.halt) (by decide) (by first | exact True.intro | omega | assumption | (simp; done) | (simp; omega) | (simp at *; omega)) ?_ | refine run_quiet hc (by simp; first | exact Ends.go | exact Ends.halt) (by decide) (by first | exact True.intro | omega | assumption | (simp; done) | (simp; omega) | (simp at *; omega)) ?_ | refine run_regionW hc (by simp; exact Ends.halt) (by first | exact True.intro | omega | assumption | (simp; done) | (simp; omega) | (simp at *; omega)) ?_ | refine run_drawN hc (by kernel_rfl) (by decide) (by kernel_rfl) (by simp; exact Ends.halt) (by first | exact True.intro | omega | assumption | (simp; done) | (simp; omega) | (simp at *; omega)) ?_ | fail))
  refine ewp_loop (fun j : Nat => ⟨[(0, .d (str t)), (1, .d (str w)), (2, .d (int i)), (7, .d (int j))], []⟩) (fun j => j ≤ w.length ∧ pmAt w (t.drop i) 0 = pmAt w (t.drop i) j) (fun j => w.length - j) 0 (by simp) (run_keep [0, 1, 2, 7] [] (by simp; exact Gives.mk) (by simp; exact Gives.mk)) ?_
  rintro j ⟨h1, h2⟩
  rw [h2]
  have eT : ((i : Int) + (j : Int)).toNat = i + j := by omega
  have eT2 : ((i : Int) + (j : Int) + 1).toNat = i + j + 1 := by omega
  have hone := fun h => one_shift t i j h
  have hle := pmAt_le w (t.drop i) j h1
  repeat' (first | (first | refine ewp_seq ?_ | refine run_region hc (by simp; exact Ends.go) (by first | exact True.intro | omega | assumption | (simp; done) | (simp; omega) | (simp at *; omega)) ?_ | refine run_draw hc (by kernel_rfl) (by kernel_rfl) (by simp; exact Ends.go) (by first | exact True.intro | omega | assumption | (simp; done) | (simp; omega) | (simp at *; omega)) ?_ | refine ewp_scope ?_ | refine scopeQ_normal ?_ | refine scopeQ_ret ?_ | refine scopeQ_exit ?_ | refine ewp_skip ?_ | refine ewp_block ?_ | refine ewp_exit ?_ | refine ewp_label ?_ | refine thenQ_normal ?_ | refine thenQ_ret ?_ | refine thenQ_exit ?_ | refine blockQ_normal ?_ | refine blockQ_ret ?_ | refine blockQ_here ?_ | refine blockQ_there (by decide) ?_ | refine ewp_ret ?_ | refine opsW_nil ?_ | refine quietW_nil ?_ | (refine run_cond (by simp; exact Gives.mk) (fun hb => ?_) (fun hb => ?_) <;> (try simp at hb)) | fail) | (first | refine run_callW hc (by simp; exact Gives.mk) (by simp; exact Gives.mk) (by simp; exact Gives.mk) (by simp; exact Gives.mk) (by simp; exact Gives.mk) (fun _ => by first | exact qSmall_ok _ (by simp; omega)) (by simp) (by simp) ?_ | refine run_callQ hc (by simp; exact Gives.mk) (by simp; exact Gives.mk) (by simp; exact Gives.mk) (by simp; exact Gives.mk) (by simp; exact Gives.mk) (fun _ => by first | exact qSmall_ok _ (by simp; omega)) (by simp) (by simp) ?_ | refine run_ops hc (by simp; first | exact Ends.go | exact Ends.halt) (by decide) (by first | exact True.intro | omega | assumption | (simp; done) | (simp; omega) | (simp at *; omega)) ?_ | refine run_quiet hc (by simp; first | exact Ends.go | exact Ends.halt) (by decide) (by first | exact True.intro | omega | assumption | (simp; done) | (simp; omega) | (simp at *; omega)) ?_ | refine run_regionW hc (by simp; exact Ends.halt) (by first | exact True.intro | omega | assumption | (simp; done) | (simp; omega) | (simp at *; omega)) ?_ | refine run_drawN hc (by kernel_rfl) (by decide) (by kernel_rfl) (by simp; exact Ends.halt) (by first | exact True.intro | omega | assumption | (simp; done) | (simp; omega) | (simp at *; omega)) ?_ | fail))
  · rename_i hlt
    rw [eT2] at hb
    have e : pmAt w (t.drop i) j = j := pm_no fun x y => by
      simp only [List.length_drop] at y
      rw [hone (by omega)]
      rcases hb with h | h
      · omega
      · exact h
    rw [e, if_neg (by omega)]
    (refine run_leave hc (by simp; exact Gives.mk) ?_)
    simp
  · rename_i hlt
    rw [eT2] at hb
    refine ⟨j + 1, ⟨by omega, ?_⟩, by omega, run_back [0, 1, 2, 7] [] (by simp; exact Gives.mk) (by simp; exact Gives.mk) (by simp)⟩
    exact pm_yes hlt (by simp; omega) (by rw [hone (by omega)]; exact hb.2)
  · rw [if_pos (by omega)]
    (refine run_leave hc (by simp; exact Gives.mk) ?_)
    simp
end Go.Proofs.YtglonkenckigiaaGreatDoor
