/-
  CHAPTER 5's REFERENCE: the check of a frontier. (WITH run_drawN.)
-/
import Derived.Test.YtnainpghpjelcaaGreatDoorFnA
set_option linter.unusedSimpArgs false
set_option linter.unusedVariables false
namespace Go.Proofs.YtnainpghpjelcaaGreatDoor
open Go.Lw Go.RowKit
set_option maxRecDepth 100000
set_option maxHeartbeats 2000000

theorem qFrWithin_ok (n lo hi : Int) : FnOk Tryz.prog 72 [int n, int lo, int hi] (tru (decide (lo ≤ n ∧ n ≤ hi))) := by
  refine fnOk Tryz.func72 rfl (by kernel_rfl) Tryz.ntmps72 _ rfl (by simp) fun C hc => ?_
  repeat' (first | (first | refine Ya ?_ | refine Yb ?_ | refine Yc ?_ | refine Yd ?_ | refine Ye ?_ | refine Yf ?_ | refine Yg ?_ | refine Yh ?_ | refine Yi ?_ | refine Yj ?_ | refine Yk ?_ | refine Yl ?_ | refine Ym ?_ | refine Yn ?_ | refine Yo ?_ | refine Yp (h := ?_) | refine Yq ?_ | refine Yr ?_ | refine Ys ?_ | refine Zr hc (hk := ?_) | refine Zd hc (hk := ?_) | (refine Zc (ht := fun hb => ?_) (hf := fun hb => ?_) <;> (try simp at hb)) | fail) | (first | refine Zo hc (hk := ?_) | refine Zu hc (hk := ?_) | refine Ze hc (hk := ?_) | refine Zn hc (hk := ?_) | fail))
  (refine Zl hc (hr := ?_))
  simp
theorem qFrHost_ok (s : Bs) (hm : s.length ≤ 140737488351232) : FnOk Tryz.prog 139 [str s] (tru (isHo s)) := by
  refine fnOk Tryz.func139 rfl (by kernel_rfl) Tryz.ntmps139 _ rfl (by simp) fun C hc => ?_
  have h1 := qHostF_ok (s ++ [41, 47]) (by simp; omega)
  have h2 := qHostF_ok (s ++ [41, 115, 47]) (by simp; omega)
  unfold isHo
  generalize hostC (s ++ [41, 47]) = x at h1 ⊢
  generalize hostC (s ++ [41, 115, 47]) = y at h2 ⊢
  obtain ⟨x1, x2⟩ := x
  obtain ⟨y1, y2⟩ := y
  simp only at h1 h2
  repeat' (first | (first | refine Ya ?_ | refine Yb ?_ | refine Yc ?_ | refine Yd ?_ | refine Ye ?_ | refine Yf ?_ | refine Yg ?_ | refine Yh ?_ | refine Yi ?_ | refine Yj ?_ | refine Yk ?_ | refine Yl ?_ | refine Ym ?_ | refine Yn ?_ | refine Yo ?_ | refine Yp (h := ?_) | refine Yq ?_ | refine Yr ?_ | refine Ys ?_ | refine Zr hc (hk := ?_) | refine Zd hc (hk := ?_) | (refine Zc (ht := fun hb => ?_) (hf := fun hb => ?_) <;> (try simp at hb)) | fail) | (first | refine Zo hc (hk := ?_) | refine Zu hc (hk := ?_) | refine Ze hc (hk := ?_) | refine Zn hc (hk := ?_) | fail))
  (first | refine run_sealW 7 hc (by simp; exact Gives.mk) (by simp) ?_ | refine run_seal 7 hc (by simp; exact Gives.mk) (by simp) ?_)
  refine ewp_loop (fun j : Nat => ⟨[(0, .d (str s)), (7, .d (.sl 2 fun i => [[str [41, 47]], [str [41, 115, 47]]][i]?.getD [str []])), (8, .d (int 2)), (9, .d (int j))], []⟩) (fun j => j ≤ 2 ∧ (1 ≤ j → ¬ (x2 = 0 ∧ x1 = s)) ∧ (2 ≤ j → ¬ (y2 = 0 ∧ y1 = s))) (fun j => 2 - j) 0 (by simp) (run_keep [0, 7, 8, 9] [] (by simp; exact Gives.mk) (by simp; exact Gives.mk)) ?_
  rintro j ⟨hj, g1, g2⟩
  match j, hj with
  | 0, _ =>
    repeat' (first | (first | refine Ya ?_ | refine Yb ?_ | refine Yc ?_ | refine Yd ?_ | refine Ye ?_ | refine Yf ?_ | refine Yg ?_ | refine Yh ?_ | refine Yi ?_ | refine Yj ?_ | refine Yk ?_ | refine Yl ?_ | refine Ym ?_ | refine Yn ?_ | refine Yo ?_ | refine Yp (h := ?_) | refine Yq ?_ | refine Yr ?_ | refine Ys ?_ | refine Zr hc (hk := ?_) | refine Zd hc (hk := ?_) | (refine Zc (ht := fun hb => ?_) (hf := fun hb => ?_) <;> (try simp at hb)) | fail) | (first | refine Zw hc (hf := by exact h1) (hk := ?_) | refine Zq hc (hf := by exact h1) (hk := ?_) | refine Zo hc (hk := ?_) | refine Zu hc (hk := ?_) | refine Ze hc (hk := ?_) | refine Zn hc (hk := ?_) | fail))
    all_goals try (exfalso; omega)
    · (refine Zl hc (hr := ?_))
      simp [hb.1, hb.2]
    · exact ⟨1, ⟨by omega, fun _ e => by simp_all, fun h => by omega⟩, by omega, run_back [0, 7, 8, 9] [] (by simp; exact Gives.mk) (by simp; exact Gives.mk) (by simp)⟩
  | 1, _ =>
    repeat' (first | (first | refine Ya ?_ | refine Yb ?_ | refine Yc ?_ | refine Yd ?_ | refine Ye ?_ | refine Yf ?_ | refine Yg ?_ | refine Yh ?_ | refine Yi ?_ | refine Yj ?_ | refine Yk ?_ | refine Yl ?_ | refine Ym ?_ | refine Yn ?_ | refine Yo ?_ | refine Yp (h := ?_) | refine Yq ?_ | refine Yr ?_ | refine Ys ?_ | refine Zr hc (hk := ?_) | refine Zd hc (hk := ?_) | (refine Zc (ht := fun hb => ?_) (hf := fun hb => ?_) <;> (try simp at hb)) | fail) | (first | refine Zw hc (hf := by exact h2) (hk := ?_) | refine Zq hc (hf := by exact h2) (hk := ?_) | refine Zo hc (hk := ?_) | refine Zu hc (hk := ?_) | refine Ze hc (hk := ?_) | refine Zn hc (hk := ?_) | fail))
    all_goals try (exfalso; omega)
    · (refine Zl hc (hr := ?_))
      simp [hb.1, hb.2]
    · exact ⟨2, ⟨by omega, fun _ => g1 (by omega), fun _ e => by simp_all⟩, by omega, run_back [0, 7, 8, 9] [] (by simp; exact Gives.mk) (by simp; exact Gives.mk) (by simp)⟩
  | 2, _ =>
    repeat' (first | (first | refine Ya ?_ | refine Yb ?_ | refine Yc ?_ | refine Yd ?_ | refine Ye ?_ | refine Yf ?_ | refine Yg ?_ | refine Yh ?_ | refine Yi ?_ | refine Yj ?_ | refine Yk ?_ | refine Yl ?_ | refine Ym ?_ | refine Yn ?_ | refine Yo ?_ | refine Yp (h := ?_) | refine Yq ?_ | refine Yr ?_ | refine Ys ?_ | refine Zr hc (hk := ?_) | refine Zd hc (hk := ?_) | (refine Zc (ht := fun hb => ?_) (hf := fun hb => ?_) <;> (try simp at hb)) | fail) | (first | refine Zo hc (hk := ?_) | refine Zu hc (hk := ?_) | refine Ze hc (hk := ?_) | refine Zn hc (hk := ?_) | fail))
    all_goals try (exfalso; omega)
    have k1 := g1 (by omega)
    have k2 := g2 (by omega)
    (refine Zl hc (hr := ?_))
    refine res_bool ?_
    have e1 : decide ((x1, x2) = (s, 0)) = false := decide_eq_false fun e => k1 ⟨(Prod.mk.inj e).2, (Prod.mk.inj e).1⟩
    have e2 : decide ((y1, y2) = (s, 0)) = false := decide_eq_false fun e => k2 ⟨(Prod.mk.inj e).2, (Prod.mk.inj e).1⟩
    rw [e1, e2]
    rfl
theorem qCheckWanted_ok (x : Wnt) (hm : x.1.length ≤ 9223372036854775807) : FnOk Tryz.prog 98 [wntD x] (int (wntE x)) := by
  refine fnOk Tryz.func98 rfl (by kernel_rfl) Tryz.ntmps98 _ rfl (by simp) fun C hc => ?_
  obtain ⟨k, r, d⟩ := x
  have hm' : k.length ≤ 9223372036854775807 := hm
  have h1 := qOfKey_ok k hm'
  have h2 := qFrWithin_ok r 0 9
  have h3 := qFrWithin_ok d 0 253402300799
  unfold wntE
  simp only
  generalize ofK k = y at h1 ⊢
  generalize decide (0 ≤ r ∧ r ≤ 9) = w1 at h2 ⊢
  generalize decide (okM d) = w2 at h3 ⊢
  repeat' (first | (first | refine Ya ?_ | refine Yb ?_ | refine Yc ?_ | refine Yd ?_ | refine Ye ?_ | refine Yf ?_ | refine Yg ?_ | refine Yh ?_ | refine Yi ?_ | refine Yj ?_ | refine Yk ?_ | refine Yl ?_ | refine Ym ?_ | refine Yn ?_ | refine Yo ?_ | refine Yp (h := ?_) | refine Yq ?_ | refine Yr ?_ | refine Ys ?_ | refine Zr hc (hk := ?_) | refine Zd hc (hk := ?_) | (refine Zc (ht := fun hb => ?_) (hf := fun hb => ?_) <;> (try simp at hb)) | fail) | (first | refine Zw hc (hf := by first | exact h1 | exact h2 | exact h3) (hk := ?_) | refine Zq hc (hf := by first | exact h1 | exact h2 | exact h3) (hk := ?_) | refine Zo hc (hk := ?_) | refine Zu hc (hk := ?_) | refine Ze hc (hk := ?_) | refine Zn hc (hk := ?_) | fail))
  · rw [if_pos hb]
    (refine Zl hc (hr := ?_))
    simp
  · rename_i g
    rw [if_neg (fun h => h g), if_pos hb]
    (refine Zl hc (hr := ?_))
    simp
  · rename_i g
    rw [if_neg (fun h => h g), if_neg (by simp [hb.1, hb.2])]
    (refine Zl hc (hr := ?_))
    simp
theorem qCheckHost_ok (H : List Hst) (k : Nat) (hl : H.length ≤ 300) (i4 : ∀ j, (hstAt H j).1.length ≤ 140737488351232) (i5 : ∀ j, (hstAt H j).2.2.2.length ≤ 9223372036854775807) (hk : k < H.length) : FnOk Tryz.prog 102 [hstSl H, int (k : Int)] (int (hostE H k)) := by
  refine fnOk Tryz.func102 rfl (by kernel_rfl) Tryz.ntmps102 _ rfl (by simp) fun C hc => ?_
  have h4 := qFrHost_ok (hstAt H k).1 (i4 k)
  have h5 := qFrWithin_ok (hstAt H k).2.1 0 253502300799
  have h7 := i5 k
  generalize hE : hostE H k = e2
  unfold hostE at hE
  generalize isHo (hstAt H k).1 = w3 at h4 hE
  generalize decide (0 ≤ (hstAt H k).2.1 ∧ (hstAt H k).2.1 ≤ 253502300799) = w4 at h5 hE
  unfold startsE at hE
  repeat' (first | (first | refine Ya ?_ | refine Yb ?_ | refine Yc ?_ | refine Yd ?_ | refine Ye ?_ | refine Yf ?_ | refine Yg ?_ | refine Yh ?_ | refine Yi ?_ | refine Yj ?_ | refine Yk ?_ | refine Yl ?_ | refine Ym ?_ | refine Yn ?_ | refine Yo ?_ | refine Yp (h := ?_) | refine Yq ?_ | refine Yr ?_ | refine Ys ?_ | refine Zr hc (hk := ?_) | refine Zd hc (hk := ?_) | (refine Zc (ht := fun hb => ?_) (hf := fun hb => ?_) <;> (try simp at hb)) | fail) | (first | refine Zw hc (hf := by first | exact h4 | exact h5) (hk := ?_) | refine Zq hc (hf := by first | exact h4 | exact h5) (hk := ?_) | refine Zo hc (hk := ?_) | refine Zu hc (hk := ?_) | refine Ze hc (hk := ?_) | refine Zn hc (hk := ?_) | fail))
  · rw [if_pos hb] at hE
    subst hE
    (refine Zl hc (hr := ?_))
    simp
  · rename_i g1
    rw [if_neg (by simp [g1]), if_pos hb] at hE
    subst hE
    (refine Zl hc (hr := ?_))
    simp
  · rename_i g1 g2
    rw [if_neg (by simp [g1]), if_neg (not_leB g2), if_pos hb] at hE
    subst hE
    (refine Zl hc (hr := ?_))
    simp
  · rename_i g1 g2 g3
    rw [if_neg (by simp [g1]), if_neg (not_leB g2), if_neg (by simp [g3]), if_pos (by omega)] at hE
    subst hE
    (refine Zl hc (hr := ?_))
    simp
  · rename_i g1 g2 g3
    rw [if_neg (by simp [g1]), if_neg (not_leB g2), if_neg (by simp [g3]), if_neg (by omega)] at hE
    subst hE
    clear h4 h5 g1 g2 g3
    refine ewp_loop (fun j : Nat => ⟨[(5, .bp 5 0), (42, .d (intSl (hstAt H k).2.2.2)), (43, .d (int (hstAt H k).2.2.2.length)), (44, .d (int j))], [(5, .box 92 [.d (str (hstAt H k).1), .d (int (hstAt H k).2.1), .d (tru (hstAt H k).2.2.1), .d (intSl (hstAt H k).2.2.2)])]⟩) (fun j => j ≤ (hstAt H k).2.2.2.length ∧ startsGo (hstAt H k).2.2.2 0 = startsGo (hstAt H k).2.2.2 j) (fun j => (hstAt H k).2.2.2.length - j) 0 (by simp) (run_keep [5, 42, 43, 44] [5] (by simp; exact Gives.mk) (by simp; exact Gives.mk)) ?_
    generalize (hstAt H k).2.2.2 = l at hb h7 ⊢
    rintro j ⟨hj, hA⟩
    have hst : startsGo l j = if j < l.length then (if decide (okM (l[j]?.getD 0)) = false then 1 else if 0 < j ∧ l[j]?.getD 0 < l[j - 1]?.getD 0 then 8 else startsGo l (j + 1)) else 0 := by rw [startsGo]
    have h1 := qFrWithin_ok (l[j]?.getD 0) 0 253402300799
    have e1 : decide (okM (l[j]?.getD 0)) = decide (0 ≤ l[j]?.getD 0 ∧ l[j]?.getD 0 ≤ 253402300799) := rfl
    rw [e1] at hst
    generalize decide (0 ≤ l[j]?.getD 0 ∧ l[j]?.getD 0 ≤ 253402300799) = w at h1 hst
    clear e1
    repeat' (first | (first | refine Ya ?_ | refine Yb ?_ | refine Yc ?_ | refine Yd ?_ | refine Ye ?_ | refine Yf ?_ | refine Yg ?_ | refine Yh ?_ | refine Yi ?_ | refine Yj ?_ | refine Yk ?_ | refine Yl ?_ | refine Ym ?_ | refine Yn ?_ | refine Yo ?_ | refine Yp (h := ?_) | refine Yq ?_ | refine Yr ?_ | refine Ys ?_ | refine Zr hc (hk := ?_) | refine Zd hc (hk := ?_) | (refine Zc (ht := fun hb => ?_) (hf := fun hb => ?_) <;> (try simp at hb)) | fail) | (first | refine Zw hc (hf := by exact h1) (hk := ?_) | refine Zq hc (hf := by exact h1) (hk := ?_) | refine Zo hc (hk := ?_) | refine Zu hc (hk := ?_) | refine Ze hc (hk := ?_) | refine Zn hc (hk := ?_) | fail))
    · rw [hA, hst, if_pos (by assumption), if_pos hb]
      (refine Zl hc (hr := ?_))
      simp
    · rename_i g
      rw [hA, hst, if_pos (by assumption), if_neg (by simp [g]), if_pos hb]
      (refine Zl hc (hr := ?_))
      simp
    · rename_i g
      exact ⟨j + 1, ⟨by omega, by rw [hA, hst, if_pos (by assumption), if_neg (by simp [g]), if_neg (fun h => by have := hb h.1; omega)]⟩, by omega, run_back [5, 42, 43, 44] [5] (by simp; exact Gives.mk) (by simp; exact Gives.mk) (by simp)⟩
    · rw [hA, hst, if_neg (by omega)]
      (refine Zl hc (hr := ?_))
      simp
theorem qCheckFr_ok (f : Frt) (hf : FrOk f) : FnOk Tryz.prog 41 [frD f] (int (frE f)) := by
  refine fnOk Tryz.func41 rfl (by kernel_rfl) Tryz.ntmps41 _ rfl (by simp) fun C hc => ?_
  obtain ⟨I, H, bu, wi⟩ := f
  obtain ⟨i1, i2, i3, i4, i5⟩ := hf
  simp only at i1 i2 i3 i4 i5
  have h1 := qFrWithin_ok bu 1 200
  have h2 := qFrWithin_ok wi 1 100000000
  unfold frE
  simp only
  generalize decide (1 ≤ bu ∧ bu ≤ 200) = w1 at h1 ⊢
  generalize decide (1 ≤ wi ∧ wi ≤ 100000000) = w2 at h2 ⊢
  repeat' (first | (first | refine Ya ?_ | refine Yb ?_ | refine Yc ?_ | refine Yd ?_ | refine Ye ?_ | refine Yf ?_ | refine Yg ?_ | refine Yh ?_ | refine Yi ?_ | refine Yj ?_ | refine Yk ?_ | refine Yl ?_ | refine Ym ?_ | refine Yn ?_ | refine Yo ?_ | refine Yp (h := ?_) | refine Yq ?_ | refine Yr ?_ | refine Ys ?_ | refine Zr hc (hk := ?_) | refine Zd hc (hk := ?_) | (refine Zc (ht := fun hb => ?_) (hf := fun hb => ?_) <;> (try simp at hb)) | fail) | (first | refine Zw hc (hf := by first | exact h1 | exact h2) (hk := ?_) | refine Zq hc (hf := by first | exact h1 | exact h2) (hk := ?_) | refine Zo hc (hk := ?_) | refine Zu hc (hk := ?_) | refine Ze hc (hk := ?_) | refine Zn hc (hk := ?_) | fail))
  · rw [if_pos hb]
    (refine Zl hc (hr := ?_))
    simp
  · rename_i g1
    rw [if_neg (by simp [g1.1, g1.2]), if_pos (by omega)]
    (refine Zl hc (hr := ?_))
    simp
  · rename_i g1
    rw [if_neg (by simp [g1.1, g1.2]), if_neg (by omega)]
    refine ewp_loop (fun j : Nat => ⟨[(1, .bp 1 0), (23, .d (wntSl I)), (24, .d (int I.length)), (25, .d (int j))], [(1, .box 25 [.d (wntSl I), .d (hstSl H), .d (int bu), .d (int wi)])]⟩) (fun j => j ≤ I.length ∧ itemsGo I 0 = itemsGo I j) (fun j => I.length - j) 0 (by simp) (run_keep [1, 23, 24, 25] [1] (by simp; exact Gives.mk) (by simp; exact Gives.mk)) ?_
    rintro j ⟨hj, hA⟩
    have hst : itemsGo I j = if j < I.length then (if wntE (wntAt I j) ≠ 0 then wntE (wntAt I j) else if 0 < j ∧ leB (wntAt I j).1 (wntAt I (j - 1)).1 then 8 else itemsGo I (j + 1)) else 0 := by rw [itemsGo]
    have h3 := qCheckWanted_ok (wntAt I j) (by have := i3 j; omega)
    generalize wntE (wntAt I j) = e at h3 hst
    clear h1 h2 g1
    repeat' (first | (first | refine Ya ?_ | refine Yb ?_ | refine Yc ?_ | refine Yd ?_ | refine Ye ?_ | refine Yf ?_ | refine Yg ?_ | refine Yh ?_ | refine Yi ?_ | refine Yj ?_ | refine Yk ?_ | refine Yl ?_ | refine Ym ?_ | refine Yn ?_ | refine Yo ?_ | refine Yp (h := ?_) | refine Yq ?_ | refine Yr ?_ | refine Ys ?_ | refine Zr hc (hk := ?_) | refine Zd hc (hk := ?_) | (refine Zc (ht := fun hb => ?_) (hf := fun hb => ?_) <;> (try simp at hb)) | fail) | (first | refine Zw hc (hf := by exact h3) (hk := ?_) | refine Zq hc (hf := by exact h3) (hk := ?_) | refine Zo hc (hk := ?_) | refine Zu hc (hk := ?_) | refine Ze hc (hk := ?_) | refine Zn hc (hk := ?_) | fail))
    · rw [if_pos (by assumption), if_pos hb] at hst
      rw [hA, hst, if_pos hb]
      (refine Zl hc (hr := ?_))
      simp
    · rename_i g
      rw [if_pos (by assumption), if_neg (fun h => h g), if_pos hb] at hst
      rw [hA, hst, if_pos (by decide)]
      (refine Zl hc (hr := ?_))
      simp
    · rename_i g
      rw [if_pos (by assumption), if_neg (fun h => h g), if_neg (fun h => by
        obtain ⟨k1, k2⟩ := hb h.1
        rcases h.2 with h | h
        · rw [k1] at h; cases h
        · exact k2 h)] at hst
      exact ⟨j + 1, ⟨by omega, by rw [hA, hst]⟩, by omega, run_back [1, 23, 24, 25] [1] (by simp; exact Gives.mk) (by simp; exact Gives.mk) (by simp)⟩
    · rw [if_neg (by omega)] at hst
      rw [hA, hst, if_neg (fun h => h rfl), if_pos (by omega)]
      (refine Zl hc (hr := ?_))
      simp
    · rw [if_neg (by omega)] at hst
      rw [hA, hst, if_neg (fun h => h rfl), if_neg (by omega)]
      clear hst hA h3
      refine ewp_loop (fun j : Nat => ⟨[(1, .bp 1 0), (55, .d (hstSl H)), (56, .d (int H.length)), (57, .d (int j))], [(1, .box 25 [.d (wntSl I), .d (hstSl H), .d (int bu), .d (int wi)])]⟩) (fun j => j ≤ H.length ∧ hostsGo H 0 = hostsGo H j) (fun j => H.length - j) 0 (by simp) (run_keep [1, 55, 56, 57] [1] (by simp; exact Gives.mk) (by simp; exact Gives.mk)) ?_
      rintro k ⟨hk, hB⟩
      have hst : hostsGo H k = if k < H.length then (if hostE H k ≠ 0 then hostE H k else hostsGo H (k + 1)) else 0 := by rw [hostsGo]
      have h4 := qCheckHost_ok H k (by omega) i4 i5
      generalize hostE H k = e2 at h4 hst
      by_cases hlt : k < H.length
      · have h4' := h4 hlt
        clear h4
        repeat' (first | (first | refine Ya ?_ | refine Yb ?_ | refine Yc ?_ | refine Yd ?_ | refine Ye ?_ | refine Yf ?_ | refine Yg ?_ | refine Yh ?_ | refine Yi ?_ | refine Yj ?_ | refine Yk ?_ | refine Yl ?_ | refine Ym ?_ | refine Yn ?_ | refine Yo ?_ | refine Yp (h := ?_) | refine Yq ?_ | refine Yr ?_ | refine Ys ?_ | refine Zr hc (hk := ?_) | refine Zd hc (hk := ?_) | (refine Zc (ht := fun hb => ?_) (hf := fun hb => ?_) <;> (try simp at hb)) | fail) | (first | refine Zw hc (hf := by exact h4') (hk := ?_) | refine Zq hc (hf := by exact h4') (hk := ?_) | refine Zo hc (hk := ?_) | refine Zu hc (hk := ?_) | refine Ze hc (hk := ?_) | refine Zn hc (hk := ?_) | fail))
        · rw [if_pos hlt, if_pos hb] at hst
          rw [hB, hst]
          (refine Zl hc (hr := ?_))
          simp
        · rw [if_pos hlt, if_neg (fun h => h hb)] at hst
          exact ⟨k + 1, ⟨by omega, by rw [hB, hst]⟩, by omega, run_back [1, 55, 56, 57] [1] (by simp; exact Gives.mk) (by simp; exact Gives.mk) (by simp)⟩
        · exfalso; omega
      · clear h4
        repeat' (first | (first | refine Ya ?_ | refine Yb ?_ | refine Yc ?_ | refine Yd ?_ | refine Ye ?_ | refine Yf ?_ | refine Yg ?_ | refine Yh ?_ | refine Yi ?_ | refine Yj ?_ | refine Yk ?_ | refine Yl ?_ | refine Ym ?_ | refine Yn ?_ | refine Yo ?_ | refine Yp (h := ?_) | refine Yq ?_ | refine Yr ?_ | refine Ys ?_ | refine Zr hc (hk := ?_) | refine Zd hc (hk := ?_) | (refine Zc (ht := fun hb => ?_) (hf := fun hb => ?_) <;> (try simp at hb)) | fail) | (first | refine Zo hc (hk := ?_) | refine Zu hc (hk := ?_) | refine Ze hc (hk := ?_) | refine Zn hc (hk := ?_) | fail))
        all_goals try (exfalso; omega)
        rw [if_neg hlt] at hst
        rw [hB, hst]
        (refine Zl hc (hr := ?_))
        simp
end Go.Proofs.YtnainpghpjelcaaGreatDoor
