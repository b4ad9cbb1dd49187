/-
  ADDRESS: what a text that Relative wrote means: Trim, row, meant. (WITH run_drawN.)
-/
import Derived.Test.YtglonkenckigiaaGreatDoorR1F
import Derived.Test.YtglonkenckigiaaGreatDoorAdH
import Derived.Test.YtglonkenckigiaaGreatDoorAdV
import Derived.Test.YtglonkenckigiaaGreatDoorAdM
set_option linter.unusedSimpArgs false
set_option linter.unusedVariables false
namespace Go.Proofs.YtglonkenckigiaaGreatDoor
open Go.Lw Go.RowKit
set_option maxRecDepth 100000
set_option maxHeartbeats 1000000

def blanks : Bs := [9, 10, 12, 13, 32]
theorem row_nobad : ∀ u : Bs, rowE [] u = (u.length, true) → ∀ c ∈ u, badB c = false
  | [], _, c, hc => by cases hc
  | b :: r, h, c, hc => by
    rw [rowE.eq_def] at h
    simp only at h
    rw [if_neg (show ¬ ([] : Bs).contains b = true by simp)] at h
    by_cases h2 : badB b = true
    · rw [if_pos h2] at h; simp at h
    rw [if_neg h2] at h
    have hb : badB b = false := by simpa using h2
    by_cases h3 : b = 37
    · rw [if_pos h3] at h
      match r, h, hc with
      | [], h, hc => simp at h
      | [_], h, hc => simp at h
      | x :: y :: r2, h, hc =>
        simp only at h
        by_cases h4 : isHexB x = true ∧ isHexB y = true
        · rw [if_pos h4] at h
          have h5 : rowE [] r2 = (r2.length, true) := by
            have e1 := congrArg Prod.fst h
            have e2 := congrArg Prod.snd h
            simp only [List.length_cons] at e1 e2
            exact Prod.ext (by simp only; omega) e2
          rcases List.mem_cons.1 hc with rfl | hc
          · exact hb
          rcases List.mem_cons.1 hc with rfl | hc
          · exact (hex_row h4.1).1
          rcases List.mem_cons.1 hc with rfl | hc
          · exact (hex_row h4.2).1
          · exact row_nobad r2 h5 c hc
        · rw [if_neg h4] at h; simp at h
    · rw [if_neg h3] at h
      have h5 : rowE [] r = (r.length, true) := by
        have e1 := congrArg Prod.fst h
        have e2 := congrArg Prod.snd h
        simp only [List.length_cons] at e1 e2
        exact Prod.ext (by simp only; omega) e2
      rcases List.mem_cons.1 hc with rfl | hc
      · exact hb
      · exact row_nobad r h5 c hc
theorem row_free {w : Bs} (hw : ∀ c, w.contains c = true → isHexB c = false) {s : Bs} (h : isRow w s) : (∀ c ∈ s, badB c = false) ∧ (∀ c ∈ s, w.contains c = false) := by
  unfold isRow at h
  have h1 := rowE_until hw s
  rw [h] at h1
  have hle := rowE_le [] (s.takeWhile (nw w))
  rw [← h1] at hle
  have hpre := List.takeWhile_prefix (l := s) (nw w)
  have hu : s.takeWhile (nw w) = s := hpre.eq_of_length_le hle
  rw [hu] at h1
  refine ⟨row_nobad s h1.symm, fun c hc => ?_⟩
  rw [← hu] at hc
  have := List.all_eq_true.1 (List.all_takeWhile (l := s) (p := nw w)) c hc
  unfold nw at this
  simpa using this
theorem blank_bad {c : UInt8} (h : badB c = false) : c ∉ blanks := by
  intro hm
  have : ∀ x ∈ blanks, badB x = true := by decide
  rw [this c hm] at h
  cases h
theorem trimS_none {s cs : Bs} (h : ∀ c ∈ s, c ∉ cs) : Lib.trimS s cs = s := by
  have hd : ∀ l : Bs, (∀ c ∈ l, c ∉ cs) → l.dropWhile (fun x => cs.contains x) = l := by
    intro l hl
    cases l with
    | nil => rfl
    | cons b r =>
      rw [List.dropWhile_cons_of_neg]
      have := hl b (by simp)
      simpa using this
  unfold Lib.trimS Lib.trimLeftS Lib.trimRightS
  rw [hd s.reverse (fun c hc => h c (List.mem_reverse.1 hc)), List.reverse_reverse, hd s h]
theorem trimB_ok (s : Bs) (hm : s.length ≤ 9223372036854775807) (h : ∀ c ∈ s, c ∉ blanks) : FnOk Tryz.prog 56 [str s] (str s) := by
  refine fnOk Tryz.func56 rfl (by kernel_rfl) Tryz.ntmps56 _ rfl (by simp) fun C hc => ?_
  have ht := trim_ok s [9, 10, 12, 13, 32] hm (by decide) (by decide)
  have e : Lib.trimS s [9, 10, 12, 13, 32] = s := trimS_none h
  rw [e] at ht
  repeat' (first | (first | refine ewp_seq ?_ | refine run_region hc (by simp; exact Ends.go) (by first | exact True.intro | omega | assumption | (simp; done) | (simp; omega) | (simp at *; omega)) ?_ | refine run_draw hc (by kernel_rfl) (by kernel_rfl) (by simp; exact Ends.go) (by first | exact True.intro | omega | assumption | (simp; done) | (simp; omega) | (simp at *; omega)) ?_ | refine ewp_scope ?_ | refine scopeQ_normal ?_ | refine scopeQ_ret ?_ | refine scopeQ_exit ?_ | refine ewp_skip ?_ | refine ewp_block ?_ | refine ewp_exit ?_ | refine ewp_label ?_ | refine thenQ_normal ?_ | refine thenQ_ret ?_ | refine thenQ_exit ?_ | refine blockQ_normal ?_ | refine blockQ_ret ?_ | refine blockQ_here ?_ | refine blockQ_there (by decide) ?_ | refine ewp_ret ?_ | refine opsW_nil ?_ | refine quietW_nil ?_ | (refine run_cond (by simp; exact Gives.mk) (fun hb => ?_) (fun hb => ?_) <;> (try simp at hb)) | fail) | (first | refine run_callW hc (by simp; exact Gives.mk) (by simp; exact Gives.mk) (by simp; exact Gives.mk) (by simp; exact Gives.mk) (by simp; exact Gives.mk) (fun _ => by first | exact ht) (by simp) (by simp) ?_ | refine run_callQ hc (by simp; exact Gives.mk) (by simp; exact Gives.mk) (by simp; exact Gives.mk) (by simp; exact Gives.mk) (by simp; exact Gives.mk) (fun _ => by first | exact ht) (by simp) (by simp) ?_ | refine run_ops hc (by simp; first | exact Ends.go | exact Ends.halt) (by decide) (by first | exact True.intro | omega | assumption | (simp; done) | (simp; omega) | (simp at *; omega)) ?_ | refine run_quiet hc (by simp; first | exact Ends.go | exact Ends.halt) (by decide) (by first | exact True.intro | omega | assumption | (simp; done) | (simp; omega) | (simp at *; omega)) ?_ | refine run_regionW hc (by simp; exact Ends.halt) (by first | exact True.intro | omega | assumption | (simp; done) | (simp; omega) | (simp at *; omega)) ?_ | refine run_drawN hc (by kernel_rfl) (by decide) (by kernel_rfl) (by simp; exact Ends.halt) (by first | exact True.intro | omega | assumption | (simp; done) | (simp; omega) | (simp at *; omega)) ?_ | fail))
  (refine run_leave hc (by simp; exact Gives.mk) ?_)
  simp
theorem rowSch_ok (s r : Bs) (hs : s.all isLet = true) (h0 : s ≠ []) (hm : (s ++ 58 :: r).length ≤ 9223372036854775807) : FnOk Tryz.prog 57 [str (s ++ 58 :: r)] (str s) := by
  refine fnOk Tryz.func57 rfl (by kernel_rfl) Tryz.ntmps57 _ rfl (by simp) fun C hc => ?_
  have hat : (s ++ 58 :: r)[s.length]?.getD 0 = 58 := by simp
  have hlt : s.length < (s ++ 58 :: r).length := by simp
  have htk : (s ++ 58 :: r).take s.length = s := by simp
  have hall : ∀ j, j < s.length → isLet ((s ++ 58 :: r)[j]?.getD 0) = true ∧ ¬ (((s ++ 58 :: r)[j]?.getD 0).toNat : Int) = 58 := by
    intro j hj
    rw [List.getElem?_append_left hj, List.getElem?_eq_getElem hj, Option.getD_some]
    have h1 := List.all_eq_true.1 hs _ (List.getElem_mem hj)
    refine ⟨h1, ?_⟩
    simp only [isLet, isLo, isUp, Bool.or_eq_true, Bool.and_eq_true, decide_eq_true_eq] at h1
    omega
  generalize s ++ 58 :: r = t at hat hlt htk hall hm
  repeat' (first | (first | refine ewp_seq ?_ | refine run_region hc (by simp; exact Ends.go) (by first | exact True.intro | omega | assumption | (simp; done) | (simp; omega) | (simp at *; omega)) ?_ | refine run_draw hc (by kernel_rfl) (by kernel_rfl) (by simp; exact Ends.go) (by first | exact True.intro | omega | assumption | (simp; done) | (simp; omega) | (simp at *; omega)) ?_ | refine ewp_scope ?_ | refine scopeQ_normal ?_ | refine scopeQ_ret ?_ | refine scopeQ_exit ?_ | refine ewp_skip ?_ | refine ewp_block ?_ | refine ewp_exit ?_ | refine ewp_label ?_ | refine thenQ_normal ?_ | refine thenQ_ret ?_ | refine thenQ_exit ?_ | refine blockQ_normal ?_ | refine blockQ_ret ?_ | refine blockQ_here ?_ | refine blockQ_there (by decide) ?_ | refine ewp_ret ?_ | refine opsW_nil ?_ | refine quietW_nil ?_ | (refine run_cond (by simp; exact Gives.mk) (fun hb => ?_) (fun hb => ?_) <;> (try simp at hb)) | fail) | (first | refine run_callW hc (by simp; exact Gives.mk) (by simp; exact Gives.mk) (by simp; exact Gives.mk) (by simp; exact Gives.mk) (by simp; exact Gives.mk) (fun _ => by first | exact trivial) (by simp) (by simp) ?_ | refine run_callQ hc (by simp; exact Gives.mk) (by simp; exact Gives.mk) (by simp; exact Gives.mk) (by simp; exact Gives.mk) (by simp; exact Gives.mk) (fun _ => by first | exact trivial) (by simp) (by simp) ?_ | refine run_ops hc (by simp; first | exact Ends.go | exact Ends.halt) (by decide) (by first | exact True.intro | omega | assumption | (simp; done) | (simp; omega) | (simp at *; omega)) ?_ | refine run_quiet hc (by simp; first | exact Ends.go | exact Ends.halt) (by decide) (by first | exact True.intro | omega | assumption | (simp; done) | (simp; omega) | (simp at *; omega)) ?_ | refine run_regionW hc (by simp; exact Ends.halt) (by first | exact True.intro | omega | assumption | (simp; done) | (simp; omega) | (simp at *; omega)) ?_ | refine run_drawN hc (by kernel_rfl) (by decide) (by kernel_rfl) (by simp; exact Ends.halt) (by first | exact True.intro | omega | assumption | (simp; done) | (simp; omega) | (simp at *; omega)) ?_ | fail))
  refine ewp_loop (fun j : Nat => ⟨[(0, .d (str t)), (6, .d (int t.length)), (7, .d (int j))], []⟩) (fun j => j ≤ s.length) (fun j => s.length - j) 0 (by simp) (run_keep [0, 6, 7] [] (by simp; exact Gives.mk) (by simp; exact Gives.mk)) ?_
  intro j hj
  by_cases hjs : j = s.length
  · subst hjs
    have hat' : (((t[s.length]?.getD 0).toNat : Int) = 58) := by rw [hat]; rfl
    repeat' (first | (first | refine ewp_seq ?_ | refine run_region hc (by simp; exact Ends.go) (by first | exact True.intro | omega | assumption | (simp; done) | (simp; omega) | (simp at *; omega)) ?_ | refine run_draw hc (by kernel_rfl) (by kernel_rfl) (by simp; exact Ends.go) (by first | exact True.intro | omega | assumption | (simp; done) | (simp; omega) | (simp at *; omega)) ?_ | refine ewp_scope ?_ | refine scopeQ_normal ?_ | refine scopeQ_ret ?_ | refine scopeQ_exit ?_ | refine ewp_skip ?_ | refine ewp_block ?_ | refine ewp_exit ?_ | refine ewp_label ?_ | refine thenQ_normal ?_ | refine thenQ_ret ?_ | refine thenQ_exit ?_ | refine blockQ_normal ?_ | refine blockQ_ret ?_ | refine blockQ_here ?_ | refine blockQ_there (by decide) ?_ | refine ewp_ret ?_ | refine opsW_nil ?_ | refine quietW_nil ?_ | (refine run_cond (by simp; exact Gives.mk) (fun hb => ?_) (fun hb => ?_) <;> (try simp at hb)) | fail) | (first | refine run_callW hc (by simp; exact Gives.mk) (by simp; exact Gives.mk) (by simp; exact Gives.mk) (by simp; exact Gives.mk) (by simp; exact Gives.mk) (fun _ => by first | exact adLetter_ok _ | exact adDigit_ok _) (by simp) (by simp) ?_ | refine run_callQ hc (by simp; exact Gives.mk) (by simp; exact Gives.mk) (by simp; exact Gives.mk) (by simp; exact Gives.mk) (by simp; exact Gives.mk) (fun _ => by first | exact adLetter_ok _ | exact adDigit_ok _) (by simp) (by simp) ?_ | refine run_ops hc (by simp; first | exact Ends.go | exact Ends.halt) (by decide) (by first | exact True.intro | omega | assumption | (simp; done) | (simp; omega) | (simp at *; omega)) ?_ | refine run_quiet hc (by simp; first | exact Ends.go | exact Ends.halt) (by decide) (by first | exact True.intro | omega | assumption | (simp; done) | (simp; omega) | (simp at *; omega)) ?_ | refine run_regionW hc (by simp; exact Ends.halt) (by first | exact True.intro | omega | assumption | (simp; done) | (simp; omega) | (simp at *; omega)) ?_ | refine run_drawN hc (by kernel_rfl) (by decide) (by kernel_rfl) (by simp; exact Ends.halt) (by first | exact True.intro | omega | assumption | (simp; done) | (simp; omega) | (simp at *; omega)) ?_ | fail))
    all_goals try (exfalso; omega)
    rw [← htk]
    (refine run_leave hc (by simp; exact Gives.mk) ?_)
    simp
  · have hl := hall j (by omega)
    have hA := adLetter_ok (t[j]?.getD 0)
    rw [hl.1] at hA
    repeat' (first | (first | refine ewp_seq ?_ | refine run_region hc (by simp; exact Ends.go) (by first | exact True.intro | omega | assumption | (simp; done) | (simp; omega) | (simp at *; omega)) ?_ | refine run_draw hc (by kernel_rfl) (by kernel_rfl) (by simp; exact Ends.go) (by first | exact True.intro | omega | assumption | (simp; done) | (simp; omega) | (simp at *; omega)) ?_ | refine ewp_scope ?_ | refine scopeQ_normal ?_ | refine scopeQ_ret ?_ | refine scopeQ_exit ?_ | refine ewp_skip ?_ | refine ewp_block ?_ | refine ewp_exit ?_ | refine ewp_label ?_ | refine thenQ_normal ?_ | refine thenQ_ret ?_ | refine thenQ_exit ?_ | refine blockQ_normal ?_ | refine blockQ_ret ?_ | refine blockQ_here ?_ | refine blockQ_there (by decide) ?_ | refine ewp_ret ?_ | refine opsW_nil ?_ | refine quietW_nil ?_ | (refine run_cond (by simp; exact Gives.mk) (fun hb => ?_) (fun hb => ?_) <;> (try simp at hb)) | fail) | (first | refine run_callW hc (by simp; exact Gives.mk) (by simp; exact Gives.mk) (by simp; exact Gives.mk) (by simp; exact Gives.mk) (by simp; exact Gives.mk) (fun _ => by first | exact hA | exact adDigit_ok _) (by simp) (by simp) ?_ | refine run_callQ hc (by simp; exact Gives.mk) (by simp; exact Gives.mk) (by simp; exact Gives.mk) (by simp; exact Gives.mk) (by simp; exact Gives.mk) (fun _ => by first | exact hA | exact adDigit_ok _) (by simp) (by simp) ?_ | refine run_ops hc (by simp; first | exact Ends.go | exact Ends.halt) (by decide) (by first | exact True.intro | omega | assumption | (simp; done) | (simp; omega) | (simp at *; omega)) ?_ | refine run_quiet hc (by simp; first | exact Ends.go | exact Ends.halt) (by decide) (by first | exact True.intro | omega | assumption | (simp; done) | (simp; omega) | (simp at *; omega)) ?_ | refine run_regionW hc (by simp; exact Ends.halt) (by first | exact True.intro | omega | assumption | (simp; done) | (simp; omega) | (simp at *; omega)) ?_ | refine run_drawN hc (by kernel_rfl) (by decide) (by kernel_rfl) (by simp; exact Ends.halt) (by first | exact True.intro | omega | assumption | (simp; done) | (simp; omega) | (simp at *; omega)) ?_ | fail))
    all_goals try (exfalso; omega)
    all_goals try contradiction
    exact ⟨j + 1, by omega, by omega, run_back [0, 6, 7] [] (by simp; exact Gives.mk) (by simp; exact Gives.mk) (by simp)⟩
theorem rowSlash_ok (r : Bs) (hm : r.length < 9223372036854775807) : FnOk Tryz.prog 57 [str (47 :: r)] (str []) := by
  refine fnOk Tryz.func57 rfl (by kernel_rfl) Tryz.ntmps57 _ rfl (by simp) fun C hc => ?_
  have h1 : isLet ((47 :: r)[0]?.getD 0) = false := by simp; decide
  have h2 : (((47 :: r)[0]?.getD 0).toNat : Int) = 47 := by simp
  have h3 : 0 < (47 :: r).length := by simp
  have hm2 : (47 :: r).length ≤ 9223372036854775807 := by simp; omega
  generalize (47 :: r : Bs) = t at h1 h2 h3 hm2
  repeat' (first | (first | refine ewp_seq ?_ | refine run_region hc (by simp; exact Ends.go) (by first | exact True.intro | omega | assumption | (simp; done) | (simp; omega) | (simp at *; omega)) ?_ | refine run_draw hc (by kernel_rfl) (by kernel_rfl) (by simp; exact Ends.go) (by first | exact True.intro | omega | assumption | (simp; done) | (simp; omega) | (simp at *; omega)) ?_ | refine ewp_scope ?_ | refine scopeQ_normal ?_ | refine scopeQ_ret ?_ | refine scopeQ_exit ?_ | refine ewp_skip ?_ | refine ewp_block ?_ | refine ewp_exit ?_ | refine ewp_label ?_ | refine thenQ_normal ?_ | refine thenQ_ret ?_ | refine thenQ_exit ?_ | refine blockQ_normal ?_ | refine blockQ_ret ?_ | refine blockQ_here ?_ | refine blockQ_there (by decide) ?_ | refine ewp_ret ?_ | refine opsW_nil ?_ | refine quietW_nil ?_ | (refine run_cond (by simp; exact Gives.mk) (fun hb => ?_) (fun hb => ?_) <;> (try simp at hb)) | fail) | (first | refine run_callW hc (by simp; exact Gives.mk) (by simp; exact Gives.mk) (by simp; exact Gives.mk) (by simp; exact Gives.mk) (by simp; exact Gives.mk) (fun _ => by first | exact trivial) (by simp) (by simp) ?_ | refine run_callQ hc (by simp; exact Gives.mk) (by simp; exact Gives.mk) (by simp; exact Gives.mk) (by simp; exact Gives.mk) (by simp; exact Gives.mk) (fun _ => by first | exact trivial) (by simp) (by simp) ?_ | refine run_ops hc (by simp; first | exact Ends.go | exact Ends.halt) (by decide) (by first | exact True.intro | omega | assumption | (simp; done) | (simp; omega) | (simp at *; omega)) ?_ | refine run_quiet hc (by simp; first | exact Ends.go | exact Ends.halt) (by decide) (by first | exact True.intro | omega | assumption | (simp; done) | (simp; omega) | (simp at *; omega)) ?_ | refine run_regionW hc (by simp; exact Ends.halt) (by first | exact True.intro | omega | assumption | (simp; done) | (simp; omega) | (simp at *; omega)) ?_ | refine run_drawN hc (by kernel_rfl) (by decide) (by kernel_rfl) (by simp; exact Ends.halt) (by first | exact True.intro | omega | assumption | (simp; done) | (simp; omega) | (simp at *; omega)) ?_ | fail))
  refine ewp_loop (fun j : Nat => ⟨[(0, .d (str t)), (6, .d (int t.length)), (7, .d (int j))], []⟩) (fun j => j = 0) (fun j => 0) 0 (by simp) (run_keep [0, 6, 7] [] (by simp; exact Gives.mk) (by simp; exact Gives.mk)) ?_
  intro j hj
  rw [← hj] at h1 h2
  repeat' (first | (first | refine ewp_seq ?_ | refine run_region hc (by simp; exact Ends.go) (by first | exact True.intro | omega | assumption | (simp; done) | (simp; omega) | (simp at *; omega)) ?_ | refine run_draw hc (by kernel_rfl) (by kernel_rfl) (by simp; exact Ends.go) (by first | exact True.intro | omega | assumption | (simp; done) | (simp; omega) | (simp at *; omega)) ?_ | refine ewp_scope ?_ | refine scopeQ_normal ?_ | refine scopeQ_ret ?_ | refine scopeQ_exit ?_ | refine ewp_skip ?_ | refine ewp_block ?_ | refine ewp_exit ?_ | refine ewp_label ?_ | refine thenQ_normal ?_ | refine thenQ_ret ?_ | refine thenQ_exit ?_ | refine blockQ_normal ?_ | refine blockQ_ret ?_ | refine blockQ_here ?_ | refine blockQ_there (by decide) ?_ | refine ewp_ret ?_ | refine opsW_nil ?_ | refine quietW_nil ?_ | (refine run_cond (by simp; exact Gives.mk) (fun hb => ?_) (fun hb => ?_) <;> (try simp at hb)) | fail) | (first | refine run_callW hc (by simp; exact Gives.mk) (by simp; exact Gives.mk) (by simp; exact Gives.mk) (by simp; exact Gives.mk) (by simp; exact Gives.mk) (fun _ => by first | exact adLetter_ok _ | exact adDigit_ok _) (by simp) (by simp) ?_ | refine run_callQ hc (by simp; exact Gives.mk) (by simp; exact Gives.mk) (by simp; exact Gives.mk) (by simp; exact Gives.mk) (by simp; exact Gives.mk) (fun _ => by first | exact adLetter_ok _ | exact adDigit_ok _) (by simp) (by simp) ?_ | refine run_ops hc (by simp; first | exact Ends.go | exact Ends.halt) (by decide) (by first | exact True.intro | omega | assumption | (simp; done) | (simp; omega) | (simp at *; omega)) ?_ | refine run_quiet hc (by simp; first | exact Ends.go | exact Ends.halt) (by decide) (by first | exact True.intro | omega | assumption | (simp; done) | (simp; omega) | (simp at *; omega)) ?_ | refine run_regionW hc (by simp; exact Ends.halt) (by first | exact True.intro | omega | assumption | (simp; done) | (simp; omega) | (simp at *; omega)) ?_ | refine run_drawN hc (by kernel_rfl) (by decide) (by kernel_rfl) (by simp; exact Ends.halt) (by first | exact True.intro | omega | assumption | (simp; done) | (simp; omega) | (simp at *; omega)) ?_ | fail))
  all_goals try (exfalso; omega)
  · (refine run_leave hc (by simp; exact Gives.mk) ?_)
    simp
  · exfalso
    have := hb h1
    omega
/-! What behindA is cut into. -/
theorem behind_cut {a : Adr} (h : ChkA a) : Lib.cut (behindA a) [35] = (a.path ++ qPart a, a.frag, a.hasF) := by
  have hp := (row_free (w := [63]) (by intro c hc; have : c = 63 := by simpa using hc
                                       rw [this]; decide) h.path).1
  have hq := (row_free hw0 h.query).1
  have h35 : badB 35 = true := by decide
  have hf : (35 : UInt8) ∉ a.path ++ qPart a := by
    intro hm
    rcases List.mem_append.1 hm with hm | hm
    · rw [hp 35 hm] at h35; cases h35
    · unfold qPart at hm
      split at hm
      · rcases List.mem_cons.1 hm with e | hm
        · cases e
        · rw [hq 35 hm] at h35; cases h35
      · cases hm
  unfold behindA fPart
  cases hF : a.hasF with
  | true => rw [if_pos rfl]; exact cut_app 35 _ _ hf
  | false =>
    have : a.frag = [] := Classical.byContradiction fun e => by rw [h.hasF e] at hF; cases hF
    rw [if_neg (by decide), List.append_nil, this]
    exact cut_one 35 _ hf
theorem path_cut {a : Adr} (h : ChkA a) : Lib.cut (a.path ++ qPart a) [63] = (a.path, a.query, a.hasQ) := by
  have hp := (row_free (w := [63]) (by intro c hc; have : c = 63 := by simpa using hc
                                       rw [this]; decide) h.path).2
  have hf : (63 : UInt8) ∉ a.path := by
    intro hm
    have := hp 63 hm
    simp at this
  unfold qPart
  cases hQ : a.hasQ with
  | true => rw [if_pos rfl]; exact cut_app 63 _ _ hf
  | false =>
    have : a.query = [] := Classical.byContradiction fun e => by rw [h.hasQ e] at hQ; cases hQ
    rw [if_neg (by decide), List.append_nil, this]
    exact cut_one 63 _ hf
theorem meant_ok (b a : Adr) (h : ChkA a) (hp : a.path ≠ []) (hl : (behindA a).length ≤ 100000) : FnOk Tryz.prog 58 [adrD b, str (behindA a)] (adrD { a with scheme := b.scheme, host := b.host, port := b.port }) := by
  refine fnOk Tryz.func58 rfl (by kernel_rfl) Tryz.ntmps58 _ rfl (by simp) fun C hc => ?_
  have hc1 := cut_ok (behindA a) 35 (by omega)
  rw [behind_cut h] at hc1
  have hl2 : (a.path ++ qPart a).length ≤ 100000 := by unfold behindA at hl; simp at hl ⊢; omega
  have hc2 := cut_ok (a.path ++ qPart a) 63 (by omega)
  rw [path_cut h] at hc2
  have h47 : ((a.path[0]?.getD 0).toNat : Int) = 47 := by
    rcases h.slash with e | e
    · exact absurd e hp
    · rw [e]; rfl
  have hpl : ¬ a.path = [] → 0 < a.path.length := fun h => List.length_pos_iff.2 h
  have hpl2 : 0 < a.path.length := hpl hp
  repeat' (first | (first | refine ewp_seq ?_ | refine run_region hc (by simp; exact Ends.go) (by first | exact True.intro | omega | assumption | (simp; done) | (simp; omega) | (simp at *; omega)) ?_ | refine run_draw hc (by kernel_rfl) (by kernel_rfl) (by simp; exact Ends.go) (by first | exact True.intro | omega | assumption | (simp; done) | (simp; omega) | (simp at *; omega)) ?_ | refine ewp_scope ?_ | refine scopeQ_normal ?_ | refine scopeQ_ret ?_ | refine scopeQ_exit ?_ | refine ewp_skip ?_ | refine ewp_block ?_ | refine ewp_exit ?_ | refine ewp_label ?_ | refine thenQ_normal ?_ | refine thenQ_ret ?_ | refine thenQ_exit ?_ | refine blockQ_normal ?_ | refine blockQ_ret ?_ | refine blockQ_here ?_ | refine blockQ_there (by decide) ?_ | refine ewp_ret ?_ | refine opsW_nil ?_ | refine quietW_nil ?_ | (refine run_cond (by simp; exact Gives.mk) (fun hb => ?_) (fun hb => ?_) <;> (try simp at hb)) | fail) | (first | refine run_callW hc (by simp; exact Gives.mk) (by simp; exact Gives.mk) (by simp; exact Gives.mk) (by simp; exact Gives.mk) (by simp; exact Gives.mk) (fun _ => by first | exact hc1 | exact hc2) (by simp) (by simp) ?_ | refine run_callQ hc (by simp; exact Gives.mk) (by simp; exact Gives.mk) (by simp; exact Gives.mk) (by simp; exact Gives.mk) (by simp; exact Gives.mk) (fun _ => by first | exact hc1 | exact hc2) (by simp) (by simp) ?_ | refine run_ops hc (by simp; first | exact Ends.go | exact Ends.halt) (by decide) (by first | exact True.intro | omega | assumption | (simp; done) | (simp; omega) | (simp at *; omega)) ?_ | refine run_quiet hc (by simp; first | exact Ends.go | exact Ends.halt) (by decide) (by first | exact True.intro | omega | assumption | (simp; done) | (simp; omega) | (simp at *; omega)) ?_ | refine run_regionW hc (by simp; exact Ends.halt) (by first | exact True.intro | omega | assumption | (simp; done) | (simp; omega) | (simp at *; omega)) ?_ | refine run_drawN hc (by kernel_rfl) (by decide) (by kernel_rfl) (by simp; exact Ends.halt) (by first | exact True.intro | omega | assumption | (simp; done) | (simp; omega) | (simp at *; omega)) ?_ | fail))
  all_goals try (exfalso; omega)
  all_goals try contradiction
  (refine run_leave hc (by simp; exact Gives.mk) ?_)
  simp
end Go.Proofs.YtglonkenckigiaaGreatDoor
