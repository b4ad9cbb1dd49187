/-
  ADDRESS: AddressSamenessIsCoarser's own walk. (WITH run_drawN.)
-/
import Derived.Test.YtglonkenckigiaaGreatDoorKeyE
set_option linter.unusedSimpArgs false
set_option linter.unusedVariables false
namespace Go.Proofs.YtglonkenckigiaaGreatDoor
open Go.Lw Go.RowKit Go.ChangeShapes Go.WideShapes Go.ChangeAt
set_option maxRecDepth 100000
set_option maxHeartbeats 2000000

theorem key0C_no (a : Adr) (h : (key0C a).2 ≠ 0) : (key0C a).1 = [] := by
  unfold key0C at h ⊢
  split
  · rfl
  · rename_i h1
    rw [if_neg h1] at h
    split
    · rfl
    · rename_i h2
      rw [if_neg h2] at h
      exact absurd rfl h
theorem keyS_no (a : Adr) (R : List Rul) (h : (keyS a R).2 ≠ 0) : (keyS a R).1 = [] := by
  unfold keyS at h ⊢
  split
  · rfl
  · rename_i h1
    rw [if_neg h1] at h
    split
    · rfl
    · rename_i h2
      rw [if_neg h2] at h
      split
      · rfl
      · rename_i h3
        rw [if_neg h3] at h
        exact absurd rfl h
theorem key0C_yes {a : Adr} (h : (key0C a).2 = 0) : chkC a = 0 ∧ chkC (normA a) = 0 ∧ (key0C a).1 = keyC a := by
  unfold key0C at h ⊢
  by_cases h1 : chkC a = 0
  · rw [if_neg (fun e => e h1)] at h ⊢
    by_cases h2 : chkC (normA a) = 0
    · rw [if_neg (fun e => e h2)]
      exact ⟨h1, h2, rfl⟩
    · rw [if_pos h2] at h
      exact absurd h h2
  · rw [if_pos h1] at h
    exact absurd h h1
theorem keyS_yes {a : Adr} {R : List Rul} (h : (keyS a R).2 = 0) : chkC a = 0 ∧ sameC R = 0 ∧ chkC (normA a) = 0 ∧ (keyS a R).1 = keyR (normA a) R := by
  unfold keyS at h ⊢
  by_cases h1 : chkC a = 0
  · rw [if_neg (fun e => e h1)] at h ⊢
    by_cases h0 : sameC R = 0
    · rw [if_neg (fun e => e h0)] at h ⊢
      by_cases h2 : chkC (normA a) = 0
      · rw [if_neg (fun e => e h2)]
        exact ⟨h1, h0, h2, rfl⟩
      · rw [if_pos h2] at h
        exact absurd h h2
    · rw [if_pos h0] at h
      exact absurd h h0
  · rw [if_pos h1] at h
    exact absurd h h1
theorem keyS_back {a : Adr} {R : List Rul} (h : (keyS a R).2 = 0) : keyS (normA a) R = keyS a R := by
  obtain ⟨h1, h0, h2, _⟩ := keyS_yes h
  have hn : normA (normA a) = normA a := norm_twice ((chk_iff a).1 h1).1
  unfold keyS
  rw [hn, h1, h2]
theorem coarser_ok (a b : Adr) (R : List Rul) (haf : a.Fits) (hbf : b.Fits) (hR : RulFits R) : FnOk Tryz.prog 8 [adrD a, adrD b, rulSl R] (tru true) := by
  refine fnOk Tryz.func8 rfl (by kernel_rfl) Tryz.ntmps8 _ rfl (by simp) fun C hc => ?_
  have hA := keyF0_ok a haf
  have hB := keyF0_ok b hbf
  have hP := keyF_ok a R haf hR
  have hQ := keyF_ok b R hbf hR
  by_cases hall : (key0C a).2 = 0 ∧ (key0C b).2 = 0 ∧ (keyS a R).2 = 0 ∧ (keyS b R).2 = 0
  · obtain ⟨z1, z2, z3, z4⟩ := hall
    obtain ⟨y1, y2, y3⟩ := key0C_yes z1
    obtain ⟨y4, y5, y6⟩ := key0C_yes z2
    have hkl : (keyC a).length ≤ 2000 := by
      have := keyN_len (good_norm ((chk_iff a).1 y1).1)
      have := ((chk_iff _).1 y2).2
      unfold keyC
      omega
    have hO := ofKeyF_ok (keyC a) (by omega)
    rw [ofK_key y1 y2] at hO
    have hC := keyF_ok (normA a) R (norm_fits y1) hR
    rw [keyS_back z3] at hC
    have hpq : keyC a = keyC b → (keyS a R).1 = (keyS b R).1 := fun e => by
      have e1 := ofK_key y1 y2
      rw [e, ofK_key y4 y5] at e1
      have e2 : normA b = normA a := (Prod.mk.inj e1).1
      rw [(keyS_yes z3).2.2.2, (keyS_yes z4).2.2.2, e2]
    rw [z1, y3] at hA
    rw [z2, y6] at hB
    rw [z3] at hP hC
    rw [z4] at hQ
    generalize keyC a = x at hA hO hpq
    generalize keyC b = y at hB hpq
    generalize (keyS a R).1 = p at hP hC hpq
    generalize (keyS b R).1 = q at hQ hpq
    generalize normA a = n at hO hC
    clear y1 y2 y3 y4 y5 y6 z1 z2 z3 z4 hkl
    repeat' (first | (first | refine Ya ?_ | refine Yb ?_ | refine Yc ?_ | refine Yd ?_ | refine Ye ?_ | refine Yf ?_ | refine Yg ?_ | refine Yh ?_ | refine Yi ?_ | refine Yj ?_ | refine Yk ?_ | refine Yl ?_ | refine Ym ?_ | refine Yn ?_ | refine Yo ?_ | refine Yp (h := ?_) | refine Yq ?_ | refine Yr ?_ | refine Ys ?_ | refine Zr hc (hk := ?_) | refine Zd hc (hk := ?_) | (refine Zc (ht := fun hb => ?_) (hf := fun hb => ?_) <;> (try simp at hb)) | fail) | (first | refine Zw hc (hf := by first | exact hA | exact hB | exact hP | exact hQ | exact hO | exact hC | exact awake_ok) (hk := ?_) | refine Zq hc (hf := by first | exact hA | exact hB | exact hP | exact hQ | exact hO | exact hC | exact awake_ok) (hk := ?_) | refine Zo hc (hk := ?_) | refine Zu hc (hk := ?_) | refine Ze hc (hk := ?_) | refine Zn hc (hk := ?_) | fail))
    all_goals try contradiction
    all_goals try (exfalso; simp_all; done)
    all_goals (refine Zl hc (hr := ?_))
    all_goals simp_all
  · have n1 := key0C_no a
    have n2 := keyS_no a R
    generalize key0C a = x at hA hall n1
    generalize key0C b = y at hB hall
    generalize keyS a R = p at hP hall n2
    generalize keyS b R = q at hQ hall
    obtain ⟨x1, x2⟩ := x
    obtain ⟨y1, y2⟩ := y
    obtain ⟨p1, p2⟩ := p
    obtain ⟨q1, q2⟩ := q
    simp only at hA hB hP hQ hall n1 n2
    repeat' (first | (first | refine Ya ?_ | refine Yb ?_ | refine Yc ?_ | refine Yd ?_ | refine Ye ?_ | refine Yf ?_ | refine Yg ?_ | refine Yh ?_ | refine Yi ?_ | refine Yj ?_ | refine Yk ?_ | refine Yl ?_ | refine Ym ?_ | refine Yn ?_ | refine Yo ?_ | refine Yp (h := ?_) | refine Yq ?_ | refine Yr ?_ | refine Ys ?_ | refine Zr hc (hk := ?_) | refine Zd hc (hk := ?_) | (refine Zc (ht := fun hb => ?_) (hf := fun hb => ?_) <;> (try simp at hb)) | fail) | (first | refine Zw hc (hf := by first | exact hA | exact hB | exact hP | exact hQ | exact awake_ok) (hk := ?_) | refine Zq hc (hf := by first | exact hA | exact hB | exact hP | exact hQ | exact awake_ok) (hk := ?_) | refine Zo hc (hk := ?_) | refine Zu hc (hk := ?_) | refine Ze hc (hk := ?_) | refine Zn hc (hk := ?_) | fail))
    all_goals try contradiction
    all_goals try (exfalso; simp_all; done)
    all_goals (refine Zl hc (hr := ?_))
    all_goals simp_all
    all_goals exact ⟨(Classical.em (x2 = 0)).imp_right n1, (Classical.em (p2 = 0)).imp_right n2⟩
end Go.Proofs.YtglonkenckigiaaGreatDoor
