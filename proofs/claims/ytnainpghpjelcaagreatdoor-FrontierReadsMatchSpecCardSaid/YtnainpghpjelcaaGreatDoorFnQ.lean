/-
  CHAPTER 5's REFERENCE: the check of a frontier. (WITH run_drawN.)
-/
import Derived.Test.YtnainpghpjelcaaGreatDoorFnA
import Derived.Test.YtnainpghpjelcaaGreatDoorFnY
set_option linter.unusedSimpArgs false
set_option linter.unusedVariables false
namespace Go.Proofs.YtnainpghpjelcaaGreatDoor
open Go.Lw Go.RowKit
set_option maxRecDepth 100000
set_option maxHeartbeats 2000000

theorem qFrWithin_ok (n lo hi : Int) : FnOk Tryz.prog 72 [int n, int lo, int hi] (tru (decide (lo ≤ n ∧ n ≤ hi))) := by
  refine fnOk Tryz.func72 rfl (by kernel_rfl) Tryz.ntmps72 _ rfl (by simp) fun C hc => ?_
  repeat' (first | (first | refine Ya ?_ | refine Yb ?_ | refine Yc ?_ | refine Yd ?_ | refine Ye ?_ | refine Yf ?_ | refine Yg ?_ | refine Yh ?_ | refine Yi ?_ | refine Yj ?_ | refine Yk ?_ | refine Yl ?_ | refine Ym ?_ | refine Yn ?_ | refine Yo ?_ | refine Yp (h := ?_) | refine Yq ?_ | refine Yr ?_ | refine Ys ?_ | refine Zr hc (hk := ?_) | refine Zd hc (hk := ?_) | (refine Zc (ht := fun hb => ?_) (hf := fun hb => ?_) <;> (try simp at hb)) | fail) | (first | refine Zo hc (hk := ?_) | refine Zu hc (hk := ?_) | refine Ze hc (hk := ?_) | refine Zn hc (hk := ?_) | fail))
  (refine Zl hc (hr := ?_))
  simp
theorem qFrHost_ok (s : Bs) (hm : s.length ≤ 140737488351232) : FnOk Tryz.prog 139 [str s] (tru (isHo s)) := by
  refine fnOk Tryz.func139 rfl (by kernel_rfl) Tryz.ntmps139 _ rfl (by simp) fun C hc => ?_
  have h1 := qHostF_ok (s ++ [41, 47]) (by simp; omega)
  have h2 := qHostF_ok (s ++ [41, 115, 47]) (by simp; omega)
  unfold isHo
  generalize hostC (s ++ [41, 47]) = x at h1 ⊢
  generalize hostC (s ++ [41, 115, 47]) = y at h2 ⊢
  obtain ⟨x1, x2⟩ := x
  obtain ⟨y1, y2⟩ := y
  simp only at h1 h2
  repeat' (first | (first | refine Ya ?_ | refine Yb ?_ | refine Yc ?_ | refine Yd ?_ | refine Ye ?_ | refine Yf ?_ | refine Yg ?_ | refine Yh ?_ | refine Yi ?_ | refine Yj ?_ | refine Yk ?_ | refine Yl ?_ | refine Ym ?_ | refine Yn ?_ | refine Yo ?_ | refine Yp (h := ?_) | refine Yq ?_ | refine Yr ?_ | refine Ys ?_ | refine Zr hc (hk := ?_) | refine Zd hc (hk := ?_) | (refine Zc (ht := fun hb => ?_) (hf := fun hb => ?_) <;> (try simp at hb)) | fail) | (first | refine Zo hc (hk := ?_) | refine Zu hc (hk := ?_) | refine Ze hc (hk := ?_) | refine Zn hc (hk := ?_) | fail))
  (first | refine run_sealW 7 hc (by simp; exact Gives.mk) (by simp) ?_ | refine run_seal 7 hc (by simp; exact Gives.mk) (by simp) ?_)
  refine ewp_loop (fun j : Nat => ⟨[(0, .d (str s)), (7, .d (.sl 2 fun i => [[str [41, 47]], [str [41, 115, 47]]][i]?.getD [str []])), (8, .d (int 2)), (9, .d (int j))], []⟩) (fun j => j ≤ 2 ∧ (1 ≤ j → ¬ (x2 = 0 ∧ x1 = s)) ∧ (2 ≤ j → ¬ (y2 = 0 ∧ y1 = s))) (fun j => 2 - j) 0 (by simp) (run_keep [0, 7, 8, 9] [] (by simp; exact Gives.mk) (by simp; exact Gives.mk)) ?_
  rintro j ⟨hj, g1, g2⟩
  match j, hj with
  | 0, _ =>
    repeat' (first | (first | refine Ya ?_ | refine Yb ?_ | refine Yc ?_ | refine Yd ?_ | refine Ye ?_ | refine Yf ?_ | refine Yg ?_ | refine Yh ?_ | refine Yi ?_ | refine Yj ?_ | refine Yk ?_ | refine Yl ?_ | refine Ym ?_ | refine Yn ?_ | refine Yo ?_ | refine Yp (h := ?_) | refine Yq ?_ | refine Yr ?_ | refine Ys ?_ | refine Zr hc (hk := ?_) | refine Zd hc (hk := ?_) | (refine Zc (ht := fun hb => ?_) (hf := fun hb => ?_) <;> (try simp at hb)) | fail) | (first | refine Zw hc (hf := by exact h1) (hk := ?_) | refine Zq hc (hf := by exact h1) (hk := ?_) | refine Zo hc (hk := ?_) | refine Zu hc (hk := ?_) | refine Ze hc (hk := ?_) | refine Zn hc (hk := ?_) | fail))
    all_goals try (exfalso; omega)
    · (refine Zl hc (hr := ?_))
      simp [hb.1, hb.2]
    · exact ⟨1, ⟨by omega, fun _ e => by simp_all, fun h => by omega⟩, by omega, run_back [0, 7, 8, 9] [] (by simp; exact Gives.mk) (by simp; exact Gives.mk) (by simp)⟩
  | 1, _ =>
    repeat' (first | (first | refine Ya ?_ | refine Yb ?_ | refine Yc ?_ | refine Yd ?_ | refine Ye ?_ | refine Yf ?_ | refine Yg ?_ | refine Yh ?_ | refine Yi ?_ | refine Yj ?_ | refine Yk ?_ | refine Yl ?_ | refine Ym ?_ | refine Yn ?_ | refine Yo ?_ | refine Yp (h := ?_) | refine Yq ?_ | refine Yr ?_ | refine Ys ?_ | refine Zr hc (hk := ?_) | refine Zd hc (hk := ?_) | (refine Zc (ht := fun hb => ?_) (hf := fun hb => ?_) <;> (try simp at hb)) | fail) | (first | refine Zw hc (hf := by exact h2) (hk := ?_) | refine Zq hc (hf := by exact h2) (hk := ?_) | refine Zo hc (hk := ?_) | refine Zu hc (hk := ?_) | refine Ze hc (hk := ?_) | refine Zn hc (hk := ?_) | fail))
    all_goals try (exfalso; omega)
    · (refine Zl hc (hr := ?_))
      simp [hb.1, hb.2]
    · exact ⟨2, ⟨by omega, fun _ => g1 (by omega), fun _ e => by simp_all⟩, by omega, run_back [0, 7, 8, 9] [] (by simp; exact Gives.mk) (by simp; exact Gives.mk) (by simp)⟩
  | 2, _ =>
    repeat' (first | (first | refine Ya ?_ | refine Yb ?_ | refine Yc ?_ | refine Yd ?_ | refine Ye ?_ | refine Yf ?_ | refine Yg ?_ | refine Yh ?_ | refine Yi ?_ | refine Yj ?_ | refine Yk ?_ | refine Yl ?_ | refine Ym ?_ | refine Yn ?_ | refine Yo ?_ | refine Yp (h := ?_) | refine Yq ?_ | refine Yr ?_ | refine Ys ?_ | refine Zr hc (hk := ?_) | refine Zd hc (hk := ?_) | (refine Zc (ht := fun hb => ?_) (hf := fun hb => ?_) <;> (try simp at hb)) | fail) | (first | refine Zo hc (hk := ?_) | refine Zu hc (hk := ?_) | refine Ze hc (hk := ?_) | refine Zn hc (hk := ?_) | fail))
    all_goals try (exfalso; omega)
    have k1 := g1 (by omega)
    have k2 := g2 (by omega)
    (refine Zl hc (hr := ?_))
    refine res_bool ?_
    have e1 : decide ((x1, x2) = (s, 0)) = false := decide_eq_false fun e => k1 ⟨(Prod.mk.inj e).2, (Prod.mk.inj e).1⟩
    have e2 : decide ((y1, y2) = (s, 0)) = false := decide_eq_false fun e => k2 ⟨(Prod.mk.inj e).2, (Prod.mk.inj e).1⟩
    rw [e1, e2]
    rfl
theorem qCheckWanted_ok (x : Wnt) (hm : x.1.length ≤ 9223372036854775807) : FnOk Tryz.prog 98 [wntD x] (int (wntE x)) := by
  refine fnOk Tryz.func98 rfl (by kernel_rfl) Tryz.ntmps98 _ rfl (by simp) fun C hc => ?_
  obtain ⟨k, r, d⟩ := x
  have hm' : k.length ≤ 9223372036854775807 := hm
  have h1 := qOfKey_ok k hm'
  have h2 := qFrWithin_ok r 0 9
  have h3 := qFrWithin_ok d 0 253402300799
  unfold wntE
  simp only
  generalize ofK k = y at h1 ⊢
  generalize decide (0 ≤ r ∧ r ≤ 9) = w1 at h2 ⊢
  generalize decide (okM d) = w2 at h3 ⊢
  repeat' (first | (first | refine Ya ?_ | refine Yb ?_ | refine Yc ?_ | refine Yd ?_ | refine Ye ?_ | refine Yf ?_ | refine Yg ?_ | refine Yh ?_ | refine Yi ?_ | refine Yj ?_ | refine Yk ?_ | refine Yl ?_ | refine Ym ?_ | refine Yn ?_ | refine Yo ?_ | refine Yp (h := ?_) | refine Yq ?_ | refine Yr ?_ | refine Ys ?_ | refine Zr hc (hk := ?_) | refine Zd hc (hk := ?_) | (refine Zc (ht := fun hb => ?_) (hf := fun hb => ?_) <;> (try simp at hb)) | fail) | (first | refine Zw hc (hf := by first | exact h1 | exact h2 | exact h3) (hk := ?_) | refine Zq hc (hf := by first | exact h1 | exact h2 | exact h3) (hk := ?_) | refine Zo hc (hk := ?_) | refine Zu hc (hk := ?_) | refine Ze hc (hk := ?_) | refine Zn hc (hk := ?_) | fail))
  · rw [if_pos hb]
    (refine Zl hc (hr := ?_))
    simp
  · rename_i g
    rw [if_neg (fun h => h g), if_pos hb]
    (refine Zl hc (hr := ?_))
    simp
  · rename_i g
    rw [if_neg (fun h => h g), if_neg (by simp [hb.1, hb.2])]
    (refine Zl hc (hr := ?_))
    simp
theorem qCheckHost_ok (H : List Hst) (k : Nat) (hl : H.length ≤ 300) (i4 : ∀ j, (hstAt H j).1.length ≤ 140737488351232) (i5 : ∀ j, (hstAt H j).2.2.2.length ≤ 9223372036854775807) (hk : k < H.length) : FnOk Tryz.prog 102 [hstSl H, int (k : Int)] (int (hostE H k)) := by
  refine fnOk Tryz.func102 rfl (by kernel_rfl) Tryz.ntmps102 _ rfl (by simp) fun C hc => ?_
  have h4 := qFrHost_ok (hstAt H k).1 (i4 k)
  have h5 := qFrWithin_ok (hstAt H k).2.1 0 253502300799
  have h7 := i5 k
  generalize hE : hostE H k = e2
  unfold hostE at hE
  generalize isHo (hstAt H k).1 = w3 at h4 hE
  generalize decide (0 ≤ (hstAt H k).2.1 ∧ (hstAt H k).2.1 ≤ 253502300799) = w4 at h5 hE
  unfold startsE at hE
  repeat' (first | (first | refine Ya ?_ | refine Yb ?_ | refine Yc ?_ | refine Yd ?_ | refine Ye ?_ | refine Yf ?_ | refine Yg ?_ | refine Yh ?_ | refine Yi ?_ | refine Yj ?_ | refine Yk ?_ | refine Yl ?_ | refine Ym ?_ | refine Yn ?_ | refine Yo ?_ | refine Yp (h := ?_) | refine Yq ?_ | refine Yr ?_ | refine Ys ?_ | refine Zr hc (hk := ?_) | refine Zd hc (hk := ?_) | (refine Zc (ht := fun hb => ?_) (hf := fun hb => ?_) <;> (try simp at hb)) | fail) | (first | refine Zw hc (hf := by first | exact h4 | exact h5) (hk := ?_) | refine Zq hc (hf := by first | exact h4 | exact h5) (hk := ?_) | refine Zo hc (hk := ?_) | refine Zu hc (hk := ?_) | refine Ze hc (hk := ?_) | refine Zn hc (hk := ?_) | fail))
  · rw [if_pos hb] at hE
    subst hE
    (refine Zl hc (hr := ?_))
    simp
  · rename_i g1
    rw [if_neg (by simp [g1]), if_pos hb] at hE
    subst hE
    (refine Zl hc (hr := ?_))
    simp
  · rename_i g1 g2
    rw [if_neg (by simp [g1]), if_neg (not_leB g2), if_pos hb] at hE
    subst hE
    (refine Zl hc (hr := ?_))
    simp
  · rename_i g1 g2 g3
    rw [if_neg (by simp [g1]), if_neg (not_leB g2), if_neg (by simp [g3]), if_pos (by omega)] at hE
    subst hE
    (refine Zl hc (hr := ?_))
    simp
  · rename_i g1 g2 g3
    rw [if_neg (by simp [g1]), if_neg (not_leB g2), if_neg (by simp [g3]), if_neg (by omega)] at hE
    subst hE
    clear h4 h5 g1 g2 g3
    refine ewp_loop (fun j : Nat => ⟨[(5, .bp 5 0), (42, .d (intSl (hstAt H k).2.2.2)), (43, .d (int (hstAt H k).2.2.2.length)), (44, .d (int j))], [(5, .box 92 [.d (str (hstAt H k).1), .d (int (hstAt H k).2.1), .d (tru (hstAt H k).2.2.1), .d (intSl (hstAt H k).2.2.2)])]⟩) (fun j => j ≤ (hstAt H k).2.2.2.length ∧ startsGo (hstAt H k).2.2.2 0 = startsGo (hstAt H k).2.2.2 j) (fun j => (hstAt H k).2.2.2.length - j) 0 (by simp) (run_keep [5, 42, 43, 44] [5] (by simp; exact Gives.mk) (by simp; exact Gives.mk)) ?_
    generalize (hstAt H k).2.2.2 = l at hb h7 ⊢
    rintro j ⟨hj, hA⟩
    have hst : startsGo l j = if j < l.length then (if decide (okM (l[j]?.getD 0)) = false then 1 else if 0 < j ∧ l[j]?.getD 0 < l[j - 1]?.getD 0 then 8 else startsGo l (j + 1)) else 0 := by rw [startsGo]
    have h1 := qFrWithin_ok (l[j]?.getD 0) 0 253402300799
    have e1 : decide (okM (l[j]?.getD 0)) = decide (0 ≤ l[j]?.getD 0 ∧ l[j]?.getD 0 ≤ 253402300799) := rfl
    rw [e1] at hst
    generalize decide (0 ≤ l[j]?.getD 0 ∧ l[j]?.getD 0 ≤ 253402300799) = w at h1 hst
    clear e1
    repeat' (first | (first | refine Ya ?_ | refine Yb ?_ | refine Yc ?_ | refine Yd ?_ | refine Ye ?_ | refine Yf ?_ | refine Yg ?_ | refine Yh ?_ | refine Yi ?_ | refine Yj ?_ | refine Yk ?_ | refine Yl ?_ | refine Ym ?_ | refine Yn ?_ | refine Yo ?_ | refine Yp (h := ?_) | refine Yq ?_ | refine Yr ?_ | refine Ys ?_ | refine Zr hc (hk := ?_) | refine Zd hc (hk := ?_) | (refine Zc (ht := fun hb => ?_) (hf := fun hb => ?_) <;> (try simp at hb)) | fail) | (first | refine Zw hc (hf := by exact h1) (hk := ?_) | refine Zq hc (hf := by exact h1) (hk := ?_) | refine Zo hc (hk := ?_) | refine Zu hc (hk := ?_) | refine Ze hc (hk := ?_) | refine Zn hc (hk := ?_) | fail))
    · rw [hA, hst, if_pos (by assumption), if_pos hb]
      (refine Zl hc (hr := ?_))
      simp
    · rename_i g
      rw [hA, hst, if_pos (by assumption), if_neg (by simp [g]), if_pos hb]
      (refine Zl hc (hr := ?_))
      simp
    · rename_i g
      exact ⟨j + 1, ⟨by omega, by rw [hA, hst, if_pos (by assumption), if_neg (by simp [g]), if_neg (fun h => by have := hb h.1; omega)]⟩, by omega, run_back [5, 42, 43, 44] [5] (by simp; exact Gives.mk) (by simp; exact Gives.mk) (by simp)⟩
    · rw [hA, hst, if_neg (by omega)]
      (refine Zl hc (hr := ?_))
      simp
theorem qCheckFr_ok (f : Frt) (hf : FrOk f) : FnOk Tryz.prog 41 [frD f] (int (frE f)) := by
  refine fnOk Tryz.func41 rfl (by kernel_rfl) Tryz.ntmps41 _ rfl (by simp) fun C hc => ?_
  obtain ⟨I, H, bu, wi⟩ := f
  obtain ⟨i1, i2, i3, i4, i5⟩ := hf
  simp only at i1 i2 i3 i4 i5
  have h1 := qFrWithin_ok bu 1 200
  have h2 := qFrWithin_ok wi 1 100000000
  unfold frE
  simp only
  generalize decide (1 ≤ bu ∧ bu ≤ 200) = w1 at h1 ⊢
  generalize decide (1 ≤ wi ∧ wi ≤ 100000000) = w2 at h2 ⊢
  repeat' (first | (first | refine Ya ?_ | refine Yb ?_ | refine Yc ?_ | refine Yd ?_ | refine Ye ?_ | refine Yf ?_ | refine Yg ?_ | refine Yh ?_ | refine Yi ?_ | refine Yj ?_ | refine Yk ?_ | refine Yl ?_ | refine Ym ?_ | refine Yn ?_ | refine Yo ?_ | refine Yp (h := ?_) | refine Yq ?_ | refine Yr ?_ | refine Ys ?_ | refine Zr hc (hk := ?_) | refine Zd hc (hk := ?_) | (refine Zc (ht := fun hb => ?_) (hf := fun hb => ?_) <;> (try simp at hb)) | fail) | (first | refine Zw hc (hf := by first | exact h1 | exact h2) (hk := ?_) | refine Zq hc (hf := by first | exact h1 | exact h2) (hk := ?_) | refine Zo hc (hk := ?_) | refine Zu hc (hk := ?_) | refine Ze hc (hk := ?_) | refine Zn hc (hk := ?_) | fail))
  · rw [if_pos hb]
    (refine Zl hc (hr := ?_))
    simp
  · rename_i g1
    rw [if_neg (by simp [g1.1, g1.2]), if_pos (by omega)]
    (refine Zl hc (hr := ?_))
    simp
  · rename_i g1
    rw [if_neg (by simp [g1.1, g1.2]), if_neg (by omega)]
    refine ewp_loop (fun j : Nat => ⟨[(1, .bp 1 0), (23, .d (wntSl I)), (24, .d (int I.length)), (25, .d (int j))], [(1, .box 25 [.d (wntSl I), .d (hstSl H), .d (int bu), .d (int wi)])]⟩) (fun j => j ≤ I.length ∧ itemsGo I 0 = itemsGo I j) (fun j => I.length - j) 0 (by simp) (run_keep [1, 23, 24, 25] [1] (by simp; exact Gives.mk) (by simp; exact Gives.mk)) ?_
    rintro j ⟨hj, hA⟩
    have hst : itemsGo I j = if j < I.length then (if wntE (wntAt I j) ≠ 0 then wntE (wntAt I j) else if 0 < j ∧ leB (wntAt I j).1 (wntAt I (j - 1)).1 then 8 else itemsGo I (j + 1)) else 0 := by rw [itemsGo]
    have h3 := qCheckWanted_ok (wntAt I j) (by have := i3 j; omega)
    generalize wntE (wntAt I j) = e at h3 hst
    clear h1 h2 g1
    repeat' (first | (first | refine Ya ?_ | refine Yb ?_ | refine Yc ?_ | refine Yd ?_ | refine Ye ?_ | refine Yf ?_ | refine Yg ?_ | refine Yh ?_ | refine Yi ?_ | refine Yj ?_ | refine Yk ?_ | refine Yl ?_ | refine Ym ?_ | refine Yn ?_ | refine Yo ?_ | refine Yp (h := ?_) | refine Yq ?_ | refine Yr ?_ | refine Ys ?_ | refine Zr hc (hk := ?_) | refine Zd hc (hk := ?_) | (refine Zc (ht := fun hb => ?_) (hf := fun hb => ?_) <;> (try simp at hb)) | fail) | (first | refine Zw hc (hf := by exact h3) (hk := ?_) | refine Zq hc (hf := by exact h3) (hk := ?_) | refine Zo hc (hk := ?_) | refine Zu hc (hk := ?_) | refine Ze hc (hk := ?_) | refine Zn hc (hk := ?_) | fail))
    · rw [if_pos (by assumption), if_pos hb] at hst
      rw [hA, hst, if_pos hb]
      (refine Zl hc (hr := ?_))
      simp
    · rename_i g
      rw [if_pos (by assumption), if_neg (fun h => h g), if_pos hb] at hst
      rw [hA, hst, if_pos (by decide)]
      (refine Zl hc (hr := ?_))
      simp
    · rename_i g
      rw [if_pos (by assumption), if_neg (fun h => h g), if_neg (fun h => by
        obtain ⟨k1, k2⟩ := hb h.1
        rcases h.2 with h | h
        · rw [k1] at h; cases h
        · exact k2 h)] at hst
      exact ⟨j + 1, ⟨by omega, by rw [hA, hst]⟩, by omega, run_back [1, 23, 24, 25] [1] (by simp; exact Gives.mk) (by simp; exact Gives.mk) (by simp)⟩
    · rw [if_neg (by omega)] at hst
      rw [hA, hst, if_neg (fun h => h rfl), if_pos (by omega)]
      (refine Zl hc (hr := ?_))
      simp
    · rw [if_neg (by omega)] at hst
      rw [hA, hst, if_neg (fun h => h rfl), if_neg (by omega)]
      clear hst hA h3
      refine ewp_loop (fun j : Nat => ⟨[(1, .bp 1 0), (55, .d (hstSl H)), (56, .d (int H.length)), (57, .d (int j))], [(1, .box 25 [.d (wntSl I), .d (hstSl H), .d (int bu), .d (int wi)])]⟩) (fun j => j ≤ H.length ∧ hostsGo H 0 = hostsGo H j) (fun j => H.length - j) 0 (by simp) (run_keep [1, 55, 56, 57] [1] (by simp; exact Gives.mk) (by simp; exact Gives.mk)) ?_
      rintro k ⟨hk, hB⟩
      have hst : hostsGo H k = if k < H.length then (if hostE H k ≠ 0 then hostE H k else hostsGo H (k + 1)) else 0 := by rw [hostsGo]
      have h4 := qCheckHost_ok H k (by omega) i4 i5
      generalize hostE H k = e2 at h4 hst
      by_cases hlt : k < H.length
      · have h4' := h4 hlt
        clear h4
        repeat' (first | (first | refine Ya ?_ | refine Yb ?_ | refine Yc ?_ | refine Yd ?_ | refine Ye ?_ | refine Yf ?_ | refine Yg ?_ | refine Yh ?_ | refine Yi ?_ | refine Yj ?_ | refine Yk ?_ | refine Yl ?_ | refine Ym ?_ | refine Yn ?_ | refine Yo ?_ | refine Yp (h := ?_) | refine Yq ?_ | refine Yr ?_ | refine Ys ?_ | refine Zr hc (hk := ?_) | refine Zd hc (hk := ?_) | (refine Zc (ht := fun hb => ?_) (hf := fun hb => ?_) <;> (try simp at hb)) | fail) | (first | refine Zw hc (hf := by exact h4') (hk := ?_) | refine Zq hc (hf := by exact h4') (hk := ?_) | refine Zo hc (hk := ?_) | refine Zu hc (hk := ?_) | refine Ze hc (hk := ?_) | refine Zn hc (hk := ?_) | fail))
        · rw [if_pos hlt, if_pos hb] at hst
          rw [hB, hst]
          (refine Zl hc (hr := ?_))
          simp
        · rw [if_pos hlt, if_neg (fun h => h hb)] at hst
          exact ⟨k + 1, ⟨by omega, by rw [hB, hst]⟩, by omega, run_back [1, 55, 56, 57] [1] (by simp; exact Gives.mk) (by simp; exact Gives.mk) (by simp)⟩
        · exfalso; omega
      · clear h4
        repeat' (first | (first | refine Ya ?_ | refine Yb ?_ | refine Yc ?_ | refine Yd ?_ | refine Ye ?_ | refine Yf ?_ | refine Yg ?_ | refine Yh ?_ | refine Yi ?_ | refine Yj ?_ | refine Yk ?_ | refine Yl ?_ | refine Ym ?_ | refine Yn ?_ | refine Yo ?_ | refine Yp (h := ?_) | refine Yq ?_ | refine Yr ?_ | refine Ys ?_ | refine Zr hc (hk := ?_) | refine Zd hc (hk := ?_) | (refine Zc (ht := fun hb => ?_) (hf := fun hb => ?_) <;> (try simp at hb)) | fail) | (first | refine Zo hc (hk := ?_) | refine Zu hc (hk := ?_) | refine Ze hc (hk := ?_) | refine Zn hc (hk := ?_) | fail))
        all_goals try (exfalso; omega)
        rw [if_neg hlt] at hst
        rw [hB, hst]
        (refine Zl hc (hr := ?_))
        simp
end Go.Proofs.YtnainpghpjelcaaGreatDoor
/-
  FRONTIER: a text, read (reference), by its readLine. (WITH run_drawN.)
-/
set_option linter.unusedSimpArgs false
set_option linter.unusedVariables false
namespace Go.Proofs.YtnainpghpjelcaaGreatDoor
open Go.Lw Go.RowKit
set_option maxRecDepth 100000
set_option maxHeartbeats 2000000

/-- The reference's line. -/
def lineQ (f : Frt) (first : Bool) (L : List Bs) : Frt × Bool :=
  if [] ∈ L then (f, false)
  else if first = true then
    if L.length = 3 ∧ wat L 0 = sFrontier then ({ f with budget := numV (wat L 1), window := numV (wat L 2) }, numOk (wat L 1) && numOk (wat L 2)) else (f, false)
  else if wat L 0 = sWant ∧ L.length = 4 ∧ f.hosts.length = 0 then ({ f with items := f.items ++ [(wat L 3, numV (wat L 1), numV (wat L 2))] }, numOk (wat L 1) && numOk (wat L 2))
  else if wat L 0 = sHost ∧ 4 ≤ L.length ∧ (wat L 3 = sBusy ∨ wat L 3 = sIdle) then
    ({ f with hosts := f.hosts ++ [(wat L 1, numV (wat L 2), decide (wat L 3 = sBusy), numsV (L.length - 4) (fun i => wat L (4 + i)))] }, numOk (wat L 2) && numsOk (L.length - 4) (fun i => wat L (4 + i)))
  else (f, false)
theorem numOk_nil : numOk [] = false := by simp [numOk]
theorem mem_wat {L : List Bs} : [] ∈ L ↔ ∃ j, j < L.length ∧ wat L j = [] := by
  constructor
  · intro h
    obtain ⟨j, hj, e⟩ := List.getElem_of_mem h
    exact ⟨j, hj, by rw [wat, List.getElem?_eq_getElem hj]; exact e⟩
  · rintro ⟨j, hj, e⟩
    rw [wat, List.getElem?_eq_getElem hj] at e
    exact e ▸ List.getElem_mem hj
theorem numsOk_at {n : Nat} {g : Nat → Bs} (h : numsOk n g = true) (j : Nat) (hj : j < n) : numOk (g j) = true := List.all_eq_true.1 h j (List.mem_range.2 hj)
theorem line_none (f : Frt) (first : Bool) (L : List Bs) (h1 : 1 ≤ L.length) (hn : [] ∈ L) : lineC f first L = none := by
  unfold lineC
  obtain ⟨j, hj, e⟩ := mem_wat.1 hn
  have hb : numOk (wat L j) = false := by rw [e]; exact numOk_nil
  split
  · refine if_neg ?_
    rintro ⟨c1, c2, c3, c4⟩
    obtain rfl | rfl | rfl : j = 0 ∨ j = 1 ∨ j = 2 := by omega
    · rw [c1] at e; cases e
    · rw [c3] at hb; cases hb
    · rw [c4] at hb; cases hb
  · split
    · rename_i hw
      refine if_neg ?_
      rintro ⟨c3, c4, c5⟩
      obtain rfl | rfl | rfl | rfl : j = 0 ∨ j = 1 ∨ j = 2 ∨ j = 3 := by omega
      · rw [hw.1] at e; cases e
      · rw [c3] at hb; cases hb
      · rw [c4] at hb; cases hb
      · exact c5 e
    · split
      · rename_i hh
        refine if_neg ?_
        rintro ⟨c3, c4, c5, c6⟩
        rcases Nat.lt_or_ge j 4 with hj4 | hj4
        · obtain rfl | rfl | rfl | rfl : j = 0 ∨ j = 1 ∨ j = 2 ∨ j = 3 := by omega
          · rw [hh.1] at e; cases e
          · exact c5 e
          · rw [c3] at hb; cases hb
          · rcases c6 with c | c <;> (rw [c] at e; cases e)
        · have := numsOk_at c4 (j - 4) (by omega)
          rw [show 4 + (j - 4) = j by omega, hb] at this
          cases this
      · rfl
theorem line_same (f : Frt) (first : Bool) (L : List Bs) (h1 : 1 ≤ L.length) : lineC f first L = if (lineQ f first L).2 = true then some (lineQ f first L).1 else none := by
  by_cases hn : [] ∈ L
  · rw [line_none f first L h1 hn]
    unfold lineQ
    rw [if_pos hn]
    rfl
  · have hne : ∀ j, j < L.length → wat L j ≠ [] := fun j hj e => hn (mem_wat.2 ⟨j, hj, e⟩)
    unfold lineC lineQ
    rw [if_neg hn]
    cases first
    · simp only [Bool.false_eq_true, if_false]
      by_cases hw : wat L 0 = sWant ∧ L.length = 4 ∧ f.hosts.length = 0
      · rw [if_pos hw, if_pos hw]
        have h3 := hne 3 (by omega)
        by_cases hg : numOk (wat L 1) = true ∧ numOk (wat L 2) = true
        · rw [if_pos ⟨hg.1, hg.2, h3⟩, if_pos (by simp [hg.1, hg.2])]
        · rw [if_neg (fun e => hg ⟨e.1, e.2.1⟩), if_neg (by simpa using hg)]
      · rw [if_neg hw, if_neg hw]
        by_cases hh : wat L 0 = sHost ∧ 4 ≤ L.length
        · rw [if_pos hh]
          have h3 := hne 1 (by omega)
          by_cases hb : wat L 3 = sBusy ∨ wat L 3 = sIdle
          · rw [if_pos (⟨hh.1, hh.2, hb⟩ : wat L 0 = sHost ∧ 4 ≤ L.length ∧ (wat L 3 = sBusy ∨ wat L 3 = sIdle))]
            by_cases hg : numOk (wat L 2) = true ∧ numsOk (L.length - 4) (fun i => wat L (4 + i)) = true
            · rw [if_pos ⟨hg.1, hg.2, h3, hb⟩, if_pos (by simp [hg.1, hg.2])]
            · rw [if_neg (fun e => hg ⟨e.1, e.2.1⟩), if_neg (by simpa using hg)]
          · rw [if_neg (fun e => hb e.2.2.2), if_neg (fun e => hb e.2.2 : ¬ (wat L 0 = sHost ∧ 4 ≤ L.length ∧ (wat L 3 = sBusy ∨ wat L 3 = sIdle)))]
            rfl
        · rw [if_neg hh, if_neg (fun e => hh ⟨e.1, e.2.1⟩ : ¬ (wat L 0 = sHost ∧ 4 ≤ L.length ∧ (wat L 3 = sBusy ∨ wat L 3 = sIdle)))]
          rfl
    · rw [if_pos (rfl : true = true), if_pos (rfl : true = true)]
      by_cases hc : L.length = 3 ∧ wat L 0 = sFrontier
      · rw [if_pos hc]
        by_cases hg : numOk (wat L 1) = true ∧ numOk (wat L 2) = true
        · rw [if_pos ⟨hc.2, hc.1, hg.1, hg.2⟩, if_pos (by simp [hg.1, hg.2])]
        · rw [if_neg (fun e => hg ⟨e.2.2.1, e.2.2.2⟩), if_neg (by simpa using hg)]
      · rw [if_neg hc, if_neg (fun e => hc ⟨e.2.1, e.1⟩)]
        rfl
/-- A frontier's own slices, and the frontier itself. -/
def frV (f : Frt) : V := .vagg [.os 50001 f.items.length, .os 50002 f.hosts.length, .d (int f.budget), .d (int f.window)]
def frO (f : Frt) : List (Nat × O) :=
  [(50001, .own 35 3 (true, [str [], int 0, int 0]) (f.items.map wntCells)),
   (50002, .own 92 4 (true, [str [], int 0, tru false, noInts]) (f.hosts.map hstCells))]
def ReadLineOk : Prop := ∀ (f : Frt) (b : Bool) (s : Bs) (hs : s.length ≤ 5000000) (hI : f.items.length ≤ 5000001) (hH : f.hosts.length ≤ 5000001),
  FnMem Tryz.prog 79 [frV f, .d (str s), .d (tru b)] (frO f) (.vtup [frV (lineQ f b (Lib.split s [32])).1, .d (tru (lineQ f b (Lib.split s [32])).2)]) (frO (lineQ f b (Lib.split s [32])).1)
theorem cut_take (t : Bs) : (Lib.cut t [10]).1.length ≤ t.length := by
  unfold Lib.cut
  split
  · simp; omega
  · simp
theorem qRead_ok (hline : ReadLineOk) (t : Bs) : FnOk Tryz.prog 30 [str t] (frReadD t) := by
  refine fnOk Tryz.func30 rfl (by kernel_rfl) Tryz.ntmps30 _ rfl (by simp) fun C hc => ?_
  unfold frReadD
  repeat' (first | (first | refine Ya ?_ | refine Yb ?_ | refine Yc ?_ | refine Yd ?_ | refine Ye ?_ | refine Yf ?_ | refine Yg ?_ | refine Yh ?_ | refine Yi ?_ | refine Yj ?_ | refine Yk ?_ | refine Yl ?_ | refine Ym ?_ | refine Yn ?_ | refine Yo ?_ | refine Yp (h := ?_) | refine Yq ?_ | refine Yr ?_ | refine Ys ?_ | refine Zr hc (hk := ?_) | refine Zd hc (hk := ?_) | (refine Zc (ht := fun hb => ?_) (hf := fun hb => ?_) <;> (try simp at hb)) | fail) | (first | refine Zo hc (hk := ?_) | refine Zu hc (hk := ?_) | refine Ze hc (hk := ?_) | refine Zn hc (hk := ?_) | fail))
  · rw [if_pos (by omega)]
    (refine Zl hc (hr := ?_))
    simp [frNo]
  · rw [if_neg (by omega)]
    subst hb
    rw [frReadGo, if_pos (.inl rfl), dif_neg (by decide)]
    (refine Zl hc (hr := ?_))
    simp [frNo]
  have hne : t ≠ [] := hb
  rw [if_neg (by omega)]
  refine ewp_loop (fun x : Frt × Nat × Bs => ⟨[(0, .d (str x.2.2)), (2, .bp 2 0), (3, .d (int 0)), (4, .d (int 0)), (5, .bp 5 0), (6, .d (int ((x.2.1 : Int) + 1)))], [(2, .box 25 [.d (.lit (.slice none 0 0)), .d (.lit (.slice none 0 0)), .d (int 0), .d (int 0)]), (5, .box 25 [.os 40000 x.1.items.length, .os 40001 x.1.hosts.length, .d (int x.1.budget), .d (int x.1.window)]),
      (40000, .own 35 3 (true, [str [], int 0, int 0]) (x.1.items.map wntCells)), (40001, .own 92 4 (true, [str [], int 0, tru false, noInts]) (x.1.hosts.map hstCells))]⟩)
    (fun x => Lim x.1 x.2.1 ∧ x.2.1 + x.2.2.length ≤ 5000000 ∧ (x.2.1 = 0 → x.2.2 ≠ []) ∧ frReadGo fr0 0 t = frReadGo x.1 x.2.1 x.2.2) (fun x => x.2.2.length) (fr0, 0, t) ⟨⟨by simp, by simp, by simp, by simp⟩, by simp; omega, fun _ => hne, rfl⟩
    (run_keepB [(5, some 0, 40000, 35, [str [], int 0, int 0]), (5, some 1, 40001, 92, [str [], int 0, tru false, noInts])] [0, 2, 3, 4, 5, 6] [2, 5, 40000, 40001] (by simp; exact Gives.mk) (by simp; exact Gives.mk) (by simp; exact Gives.mk)) ?_
  rintro ⟨f, i, u⟩ ⟨hl, hiu, hu, hA⟩
  simp only at hl hiu hu hA ⊢
  rw [frReadGo.eq_def f i u] at hA
  by_cases hc0 : i = 0 ∨ u ≠ []
  · have hu1 : u ≠ [] := hc0.elim hu id
    rw [if_pos hc0] at hA
    have hC := cut_ok u 10 (by omega)
    have hcl := cut_less (t := u)
    have hct := cut_take u
    generalize Lib.cut u [10] = c at hA hC hcl hct
    obtain ⟨c1, c2, ok⟩ := c
    simp only at hA hC hcl hct
    have hL := hline f (decide (i = 0)) c1 (by omega) (by have := hl.items; omega) (by have := hl.hosts; omega)
    have hls := line_same f (decide (i = 0)) (Lib.split c1 [32]) (split_pos c1)
    have hlm := fun g => lineC_lim (g := g) (b := decide (i = 0)) hl (s := c1) (by omega)
    have hb1 : ((i : Int) + 1 == 1) = decide (i = 0) := by rw [Bool.eq_iff_iff]; simp; omega
    generalize hq : lineQ f (decide (i = 0)) (Lib.split c1 [32]) = q at hL hls
    obtain ⟨g, b⟩ := q
    unfold frV frO at hL
    simp only at hL hls
    rw [hls] at hA hlm
    clear hls hq
    rw [← hb1] at hL
    cases b
    · simp only [Bool.false_eq_true, if_false] at hA
      have hA2 : frReadGo fr0 0 t = (none, i + 1) := by rw [hA]; split <;> rfl
      rw [hA2]
      clear hA hA2 hline hlm hcl hb1
      repeat' (first | (first | refine Ya ?_ | refine Yb ?_ | refine Yc ?_ | refine Yd ?_ | refine Ye ?_ | refine Yf ?_ | refine Yg ?_ | refine Yh ?_ | refine Yi ?_ | refine Yj ?_ | refine Yk ?_ | refine Yl ?_ | refine Ym ?_ | refine Yn ?_ | refine Yo ?_ | refine Yp (h := ?_) | refine Yq ?_ | refine Yr ?_ | refine Ys ?_ | refine Zr hc (hk := ?_) | refine Zd hc (hk := ?_) | (refine Zc (ht := fun hb => ?_) (hf := fun hb => ?_) <;> (try simp at hb)) | fail) | (first | refine run_callM ([(50001, 40000), (50002, 40001)]) (hL) hc (by simp; exact Gives.mk) (by simp; exact Gives.mk) (by simp; exact Gives.mk) (by simp; exact Gives.mk) (by simp; exact Gives.mk) rfl (by simp; exact Gives.mk) (by simp; exact Gives.mk) rfl (by simp) (by simp) (by simp; exact Gives.mk) (by simp; exact Gives.mk) ?_ | fail) | (first | refine Zw hc (hf := by exact hC) (hk := ?_) | refine Zq hc (hf := by exact hC) (hk := ?_) | refine Zo hc (hk := ?_) | refine Zu hc (hk := ?_) | refine Ze hc (hk := ?_) | refine Zn hc (hk := ?_) | fail))
      all_goals try contradiction
      (refine Zl hc (hr := ?_))
      simp [frNo]
    · simp only [if_true] at hA hlm
      have hlm := hlm g rfl
      clear hline hb1
      repeat' (first | (first | refine Ya ?_ | refine Yb ?_ | refine Yc ?_ | refine Yd ?_ | refine Ye ?_ | refine Yf ?_ | refine Yg ?_ | refine Yh ?_ | refine Yi ?_ | refine Yj ?_ | refine Yk ?_ | refine Yl ?_ | refine Ym ?_ | refine Yn ?_ | refine Yo ?_ | refine Yp (h := ?_) | refine Yq ?_ | refine Yr ?_ | refine Ys ?_ | refine Zr hc (hk := ?_) | refine Zd hc (hk := ?_) | (refine Zc (ht := fun hb => ?_) (hf := fun hb => ?_) <;> (try simp at hb)) | fail) | (first | refine run_callM ([(50001, 40000), (50002, 40001)]) (hL) hc (by simp; exact Gives.mk) (by simp; exact Gives.mk) (by simp; exact Gives.mk) (by simp; exact Gives.mk) (by simp; exact Gives.mk) rfl (by simp; exact Gives.mk) (by simp; exact Gives.mk) rfl (by simp) (by simp) (by simp; exact Gives.mk) (by simp; exact Gives.mk) ?_ | fail) | (first | refine Zw hc (hf := by exact hC) (hk := ?_) | refine Zq hc (hf := by exact hC) (hk := ?_) | refine Zo hc (hk := ?_) | refine Zu hc (hk := ?_) | refine Ze hc (hk := ?_) | refine Zn hc (hk := ?_) | fail))
      all_goals try contradiction
      · rw [dif_neg (by rw [hb]; decide)] at hA
        rw [hA]
        (refine Zl hc (hr := ?_))
        simp [frNo]
      · rw [dif_pos hb] at hA
        have hcl := hcl hb
        exact ⟨(g, i + 1, c2), ⟨hlm, by simp only; omega, fun e => by simp at e, hA⟩, by simp only; omega, run_back [0, 2, 3, 4, 5, 6] [2, 5, 40000, 40001] (by simp; exact Gives.mk) (by simp; exact Gives.mk) (by simp)⟩
  · have hi0 : ¬ i = 0 := fun e => hc0 (.inl e)
    have hu0 : u = [] := Classical.byContradiction fun e => hc0 (.inr e)
    subst hu0
    rw [if_neg hc0] at hA
    have hF := qCheckFr_ok f (lim_ok hl (by omega))
    rw [hA]
    simp only
    clear hA hline
    (first | refine run_sealW 40000 hc (by simp; exact Gives.mk) (by simp) ?_ | refine run_seal 40000 hc (by simp; exact Gives.mk) (by simp) ?_)
    (first | refine run_sealW 40001 hc (by simp; exact Gives.mk) (by simp) ?_ | refine run_seal 40001 hc (by simp; exact Gives.mk) (by simp) ?_)
    rw [wnt_cells, hst_cells]
    generalize frE f = e at hF ⊢
    repeat' (first | (first | refine Ya ?_ | refine Yb ?_ | refine Yc ?_ | refine Yd ?_ | refine Ye ?_ | refine Yf ?_ | refine Yg ?_ | refine Yh ?_ | refine Yi ?_ | refine Yj ?_ | refine Yk ?_ | refine Yl ?_ | refine Ym ?_ | refine Yn ?_ | refine Yo ?_ | refine Yp (h := ?_) | refine Yq ?_ | refine Yr ?_ | refine Ys ?_ | refine Zr hc (hk := ?_) | refine Zd hc (hk := ?_) | (refine Zc (ht := fun hb => ?_) (hf := fun hb => ?_) <;> (try simp at hb)) | fail) | (first | refine Zw hc (hf := by exact hF) (hk := ?_) | refine Zq hc (hf := by exact hF) (hk := ?_) | refine Zo hc (hk := ?_) | refine Zu hc (hk := ?_) | refine Ze hc (hk := ?_) | refine Zn hc (hk := ?_) | fail))
    all_goals try contradiction
    · rw [if_pos hb]
      (refine Zl hc (hr := ?_))
      simp [frNo]
    · rw [if_neg (fun h => h hb)]
      (refine Zl hc (hr := ?_))
      simp
end Go.Proofs.YtnainpghpjelcaaGreatDoor
/-
  FRONTIER: is a string among some (slices.Contains at strings).
-/
set_option linter.unusedSimpArgs false
set_option linter.unusedVariables false
namespace Go.Proofs.YtnainpghpjelcaaGreatDoor
open Go.Lw Go.RowKit
set_option maxRecDepth 100000
set_option maxHeartbeats 2000000

def idxT (L : List Bs) (s : Bs) (j : Nat) : Int := if j < L.length then (if s = L[j]?.getD [] then (j : Int) else idxT L s (j + 1)) else -1
termination_by L.length - j
theorem idxT_mem (L : List Bs) (s : Bs) (j : Nat) : 0 ≤ idxT L s j ↔ s ∈ L.drop j := by
  rw [idxT]
  split
  · rename_i h
    rw [List.drop_eq_getElem_cons h, List.getElem?_eq_getElem h, Option.getD_some]
    split
    · rename_i hs
      exact ⟨fun _ => List.mem_cons.2 (.inl hs), fun _ => by omega⟩
    · rename_i hs
      rw [idxT_mem L s (j + 1), List.mem_cons]
      exact ⟨.inr, fun h => h.resolve_left hs⟩
  · rename_i h
    rw [List.drop_of_length_le (by omega)]
    simp
termination_by L.length - j
theorem indexT_ok (L : List Bs) (s : Bs) (hm : L.length ≤ 5000002) : FnOk Tryz.prog 194 [strSl L, str s] (int (idxT L s 0)) := by
  refine fnOk Tryz.func194 rfl (by kernel_rfl) Tryz.ntmps194 _ rfl (by simp) fun C hc => ?_
  repeat' (first | (first | refine Ya ?_ | refine Yb ?_ | refine Yc ?_ | refine Yd ?_ | refine Ye ?_ | refine Yf ?_ | refine Yg ?_ | refine Yh ?_ | refine Yi ?_ | refine Yj ?_ | refine Yk ?_ | refine Yl ?_ | refine Ym ?_ | refine Yn ?_ | refine Yo ?_ | refine Yp (h := ?_) | refine Yq ?_ | refine Yr ?_ | refine Ys ?_ | refine Zr hc (hk := ?_) | refine Zd hc (hk := ?_) | (refine Zc (ht := fun hb => ?_) (hf := fun hb => ?_) <;> (try simp at hb)) | fail) | (first | refine Zo hc (hk := ?_) | refine Zu hc (hk := ?_) | refine Ze hc (hk := ?_) | refine Zf hc (hk := ?_) | fail))
  refine ewp_loop (fun j : Nat => ⟨[(0, .d (strSl L)), (1, .d (str s)), (7, .d (int L.length)), (8, .d (int j))], []⟩) (fun j => j ≤ L.length ∧ idxT L s 0 = idxT L s j) (fun j => L.length - j) 0 (by simp) (run_keep [0, 1, 7, 8] [] (by simp; exact Gives.mk) (by simp; exact Gives.mk)) ?_
  rintro j ⟨h1, h2⟩
  have h3 : idxT L s j = if j < L.length then (if s = L[j]?.getD [] then (j : Int) else idxT L s (j + 1)) else -1 := by rw [idxT]
  repeat' (first | (first | refine Ya ?_ | refine Yb ?_ | refine Yc ?_ | refine Yd ?_ | refine Ye ?_ | refine Yf ?_ | refine Yg ?_ | refine Yh ?_ | refine Yi ?_ | refine Yj ?_ | refine Yk ?_ | refine Yl ?_ | refine Ym ?_ | refine Yn ?_ | refine Yo ?_ | refine Yp (h := ?_) | refine Yq ?_ | refine Yr ?_ | refine Ys ?_ | refine Zr hc (hk := ?_) | refine Zd hc (hk := ?_) | (refine Zc (ht := fun hb => ?_) (hf := fun hb => ?_) <;> (try simp at hb)) | fail) | (first | refine Zo hc (hk := ?_) | refine Zu hc (hk := ?_) | refine Ze hc (hk := ?_) | refine Zf hc (hk := ?_) | fail))
  · rw [h2, h3, if_pos (by assumption), if_pos hb]
    (refine Zl hc (hr := ?_))
    simp
  · exact ⟨j + 1, ⟨by omega, by rw [h2, h3, if_pos (by assumption), if_neg hb]⟩, by omega, run_back [0, 1, 7, 8] [] (by simp; exact Gives.mk) (by simp; exact Gives.mk) (by simp)⟩
  · rw [h2, h3, if_neg (by omega)]
    (refine Zl hc (hr := ?_))
    simp
theorem containsT_ok (L : List Bs) (s : Bs) (hm : L.length ≤ 5000002) : FnOk Tryz.prog 142 [strSl L, str s] (tru (decide (s ∈ L))) := by
  refine fnOk Tryz.func142 rfl (by kernel_rfl) Tryz.ntmps142 _ rfl (by simp) fun C hc => ?_
  repeat' (first | (first | refine Ya ?_ | refine Yb ?_ | refine Yc ?_ | refine Yd ?_ | refine Ye ?_ | refine Yf ?_ | refine Yg ?_ | refine Yh ?_ | refine Yi ?_ | refine Yj ?_ | refine Yk ?_ | refine Yl ?_ | refine Ym ?_ | refine Yn ?_ | refine Yo ?_ | refine Yp (h := ?_) | refine Yq ?_ | refine Yr ?_ | refine Ys ?_ | refine Zr hc (hk := ?_) | refine Zd hc (hk := ?_) | (refine Zc (ht := fun hb => ?_) (hf := fun hb => ?_) <;> (try simp at hb)) | fail) | (first | refine Zw hc (hf := by exact indexT_ok L s hm) (hk := ?_) | refine Zq hc (hf := by exact indexT_ok L s hm) (hk := ?_) | refine Zo hc (hk := ?_) | refine Zu hc (hk := ?_) | refine Ze hc (hk := ?_) | refine Zf hc (hk := ?_) | fail))
  (refine Zl hc (hr := ?_))
  simp
  have := idxT_mem L s 0
  simpa using this
end Go.Proofs.YtnainpghpjelcaaGreatDoor
/-
  FRONTIER: a line of a text (reference): a word is empty. (WITH run_drawN.)
-/
set_option linter.unusedSimpArgs false
set_option linter.unusedVariables false
namespace Go.Proofs.YtnainpghpjelcaaGreatDoor
open Go.Lw Go.RowKit
set_option maxRecDepth 100000
set_option maxHeartbeats 2000000

theorem qLine_empty (f : Frt) (b : Bool) (s : Bs) (hs : s.length ≤ 5000000) (hI : f.items.length ≤ 5000001) (hH : f.hosts.length ≤ 5000001) (hn : [] ∈ Lib.split s [32]) :
    FnMem Tryz.prog 79 [frV f, .d (str s), .d (tru b)] (frO f) (.vtup [frV f, .d (tru false)]) (frO f) := by
  unfold frV frO
  refine fnMem Tryz.func79 rfl (by kernel_rfl) Tryz.ntmps79 _ rfl (by simp) fun C hc => ?_
  have hS := split_ok s 32 (by omega)
  have hlen := split_len s 32
  have hC := containsT_ok (Lib.split s [32]) [] (by omega)
  rw [decide_eq_true hn] at hC
  generalize Lib.split s [32] = L at hS hlen hC
  repeat' (first | (first | refine Ya ?_ | refine Yb ?_ | refine Yc ?_ | refine Yd ?_ | refine Ye ?_ | refine Yf ?_ | refine Yg ?_ | refine Yh ?_ | refine Yi ?_ | refine Yj ?_ | refine Yk ?_ | refine Yl ?_ | refine Ym ?_ | refine Yn ?_ | refine Yo ?_ | refine Yp (h := ?_) | refine Yq ?_ | refine Yr ?_ | refine Ys ?_ | refine Zr hc (hk := ?_) | refine Zd hc (hk := ?_) | (refine Zc (ht := fun hb => ?_) (hf := fun hb => ?_) <;> (try simp at hb)) | fail) | (first | refine Zw hc (hf := by first | exact hS | exact hC) (hk := ?_) | refine Zq hc (hf := by first | exact hS | exact hC) (hk := ?_) | refine Zo hc (hk := ?_) | refine Zu hc (hk := ?_) | refine Ze hc (hk := ?_) | refine Zn hc (hk := ?_) | fail))
  all_goals try contradiction
  (refine run_leaveM [50001, 50002] hc (le_end rfl) (by simp; exact Gives.mk) (by simp; exact Gives.mk) (by first | (simp; done) | (simp; omega)) ?_)
  simp
theorem qLine_first_no (f : Frt) (s : Bs) (hs : s.length ≤ 5000000) (hI : f.items.length ≤ 5000001) (hH : f.hosts.length ≤ 5000001) (hn : ¬ [] ∈ Lib.split s [32]) (hf : ¬ ((Lib.split s [32]).length = 3 ∧ wat (Lib.split s [32]) 0 = sFrontier)) :
    FnMem Tryz.prog 79 [frV f, .d (str s), .d (tru true)] (frO f) (.vtup [frV f, .d (tru false)]) (frO f) := by
  unfold frV frO
  refine fnMem Tryz.func79 rfl (by kernel_rfl) Tryz.ntmps79 _ rfl (by simp) fun C hc => ?_
  have hS := split_ok s 32 (by omega)
  have hlen := split_len s 32
  have hpos := split_pos s
  have hC := containsT_ok (Lib.split s [32]) [] (by omega)
  rw [decide_eq_false hn] at hC
  generalize Lib.split s [32] = L at hS hlen hC hf hpos
  have hkill : ∀ {P : Prop}, ((L.length : Int) = 3 ∧ L[0]?.getD [] = [102, 114, 111, 110, 116, 105, 101, 114]) → P := fun h => absurd ⟨by omega, h.2⟩ hf
  repeat' (first | (first | refine Ya ?_ | refine Yb ?_ | refine Yc ?_ | refine Yd ?_ | refine Ye ?_ | refine Yf ?_ | refine Yg ?_ | refine Yh ?_ | refine Yi ?_ | refine Yj ?_ | refine Yk ?_ | refine Yl ?_ | refine Ym ?_ | refine Yn ?_ | refine Yo ?_ | refine Yp (h := ?_) | refine Yq ?_ | refine Yr ?_ | refine Ys ?_ | refine Zr hc (hk := ?_) | refine Zd hc (hk := ?_) | (refine Zc (ht := fun hb => ?_) (hf := fun hb => ?_) <;> (try simp at hb)) | fail) | (first | refine Zw hc (hf := by first | exact hS | exact hC) (hk := ?_) | refine Zq hc (hf := by first | exact hS | exact hC) (hk := ?_) | refine Zo hc (hk := ?_) | refine Zu hc (hk := ?_) | refine Ze hc (hk := ?_) | refine Zn hc (hk := ?_) | fail))
  all_goals try contradiction
  all_goals try exact hkill (by assumption)
  (refine run_leaveM [50001, 50002] hc (le_end rfl) (by simp; exact Gives.mk) (by simp; exact Gives.mk) (by first | (simp; done) | (simp; omega)) ?_)
  simp
theorem qLine_other_no (f : Frt) (s : Bs) (hs : s.length ≤ 5000000) (hI : f.items.length ≤ 5000001) (hH : f.hosts.length ≤ 5000001) (hn : ¬ [] ∈ Lib.split s [32]) (hw : ¬ (wat (Lib.split s [32]) 0 = sWant ∧ (Lib.split s [32]).length = 4 ∧ f.hosts.length = 0))
    (hh : ¬ (wat (Lib.split s [32]) 0 = sHost ∧ 4 ≤ (Lib.split s [32]).length ∧ (wat (Lib.split s [32]) 3 = sBusy ∨ wat (Lib.split s [32]) 3 = sIdle))) :
    FnMem Tryz.prog 79 [frV f, .d (str s), .d (tru false)] (frO f) (.vtup [frV f, .d (tru false)]) (frO f) := by
  unfold frV frO
  refine fnMem Tryz.func79 rfl (by kernel_rfl) Tryz.ntmps79 _ rfl (by simp) fun C hc => ?_
  have hS := split_ok s 32 (by omega)
  have hlen := split_len s 32
  have hpos := split_pos s
  have hC := containsT_ok (Lib.split s [32]) [] (by omega)
  rw [decide_eq_false hn] at hC
  generalize Lib.split s [32] = L at hS hlen hC hw hh hpos
  repeat' (first | (first | refine Ya ?_ | refine Yb ?_ | refine Yc ?_ | refine Yd ?_ | refine Ye ?_ | refine Yf ?_ | refine Yg ?_ | refine Yh ?_ | refine Yi ?_ | refine Yj ?_ | refine Yk ?_ | refine Yl ?_ | refine Ym ?_ | refine Yn ?_ | refine Yo ?_ | refine Yp (h := ?_) | refine Yq ?_ | refine Yr ?_ | refine Ys ?_ | refine Zr hc (hk := ?_) | refine Zd hc (hk := ?_) | (refine Zc (ht := fun hb => ?_) (hf := fun hb => ?_) <;> (try simp at hb)) | fail) | (first | refine Zw hc (hf := by first | exact hS | exact hC) (hk := ?_) | refine Zq hc (hf := by first | exact hS | exact hC) (hk := ?_) | refine Zo hc (hk := ?_) | refine Zu hc (hk := ?_) | refine Ze hc (hk := ?_) | refine Zn hc (hk := ?_) | fail))
  all_goals try contradiction
  · exact absurd ⟨hb.1.1, by omega, by rw [hb.2]; rfl⟩ hw
  · exact absurd ⟨hb.1.1, by omega, hb.2⟩ hh
  · (refine run_leaveM [50001, 50002] hc (le_end rfl) (by simp; exact Gives.mk) (by simp; exact Gives.mk) (by first | (simp; done) | (simp; omega)) ?_)
    simp
end Go.Proofs.YtnainpghpjelcaaGreatDoor
