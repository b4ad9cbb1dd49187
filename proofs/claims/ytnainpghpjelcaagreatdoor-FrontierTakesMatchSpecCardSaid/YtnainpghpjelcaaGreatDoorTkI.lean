/-
  FRONTIER: frontiers that are the same (reference's Same, at one and the same frontier). (WITH run_drawN.)
-/
import Derived.Test.YtnainpghpjelcaaGreatDoorFnT
import Derived.Test.YtnainpghpjelcaaGreatDoorTkF
import Derived.Test.YtnainpghpjelcaaGreatDoorTkB
import Derived.Test.YtnainpghpjelcaaGreatDoorFrAwake
set_option linter.unusedSimpArgs false
set_option linter.unusedVariables false
namespace Go.Proofs.YtnainpghpjelcaaGreatDoor
open Go.Lw Go.RowKit
set_option maxRecDepth 100000
set_option maxHeartbeats 2000000

theorem eqInts_ok (l : List Int) (hl : l.length ≤ 9223372036854775807) : FnOk Tryz.prog 26 [intSl l, intSl l] (tru true) := by
  refine fnOk Tryz.func26 rfl (by kernel_rfl) Tryz.ntmps26 _ rfl (by simp) fun C hc => ?_
  repeat' (first | (first | refine Ya ?_ | refine Yb ?_ | refine Yc ?_ | refine Yd ?_ | refine Ye ?_ | refine Yf ?_ | refine Yg ?_ | refine Yh ?_ | refine Yi ?_ | refine Yj ?_ | refine Yk ?_ | refine Yl ?_ | refine Ym ?_ | refine Yn ?_ | refine Yo ?_ | refine Yp (h := ?_) | refine Yq ?_ | refine Yr ?_ | refine Ys ?_ | refine Zr hc (hk := ?_) | refine Zd hc (hk := ?_) | (refine Zc (ht := fun hb => ?_) (hf := fun hb => ?_) <;> (try simp at hb)) | fail) | (first | refine Zo hc (hk := ?_) | refine Zu hc (hk := ?_) | refine Ze hc (hk := ?_) | refine Zn hc (hk := ?_) | fail))
  all_goals try contradiction
  refine ewp_loop (fun j : Nat => ⟨[(0, .d (intSl l)), (1, .d (intSl l)), (12, .d (int l.length)), (13, .d (int j))], []⟩) (fun j => j ≤ l.length) (fun j => l.length - j) 0 (by simp) (run_keep [0, 1, 12, 13] [] (by simp; exact Gives.mk) (by simp; exact Gives.mk)) ?_
  intro j hj
  repeat' (first | (first | refine Ya ?_ | refine Yb ?_ | refine Yc ?_ | refine Yd ?_ | refine Ye ?_ | refine Yf ?_ | refine Yg ?_ | refine Yh ?_ | refine Yi ?_ | refine Yj ?_ | refine Yk ?_ | refine Yl ?_ | refine Ym ?_ | refine Yn ?_ | refine Yo ?_ | refine Yp (h := ?_) | refine Yq ?_ | refine Yr ?_ | refine Ys ?_ | refine Zr hc (hk := ?_) | refine Zd hc (hk := ?_) | (refine Zc (ht := fun hb => ?_) (hf := fun hb => ?_) <;> (try simp at hb)) | fail) | (first | refine Zo hc (hk := ?_) | refine Zu hc (hk := ?_) | refine Ze hc (hk := ?_) | refine Zn hc (hk := ?_) | fail))
  all_goals try contradiction
  · exact ⟨j + 1, by omega, by omega, run_back [0, 1, 12, 13] [] (by simp; exact Gives.mk) (by simp; exact Gives.mk) (by simp)⟩
  · (refine Zl hc (hr := ?_))
    simp
theorem eqWnts_ok (l : List Wnt) (hl : l.length ≤ 9223372036854775807) : FnOk Tryz.prog 61 [wntSl l, wntSl l] (tru true) := by
  refine fnOk Tryz.func61 rfl (by kernel_rfl) Tryz.ntmps61 _ rfl (by simp) fun C hc => ?_
  repeat' (first | (first | refine Ya ?_ | refine Yb ?_ | refine Yc ?_ | refine Yd ?_ | refine Ye ?_ | refine Yf ?_ | refine Yg ?_ | refine Yh ?_ | refine Yi ?_ | refine Yj ?_ | refine Yk ?_ | refine Yl ?_ | refine Ym ?_ | refine Yn ?_ | refine Yo ?_ | refine Yp (h := ?_) | refine Yq ?_ | refine Yr ?_ | refine Ys ?_ | refine Zr hc (hk := ?_) | refine Zd hc (hk := ?_) | (refine Zc (ht := fun hb => ?_) (hf := fun hb => ?_) <;> (try simp at hb)) | fail) | (first | refine Zo hc (hk := ?_) | refine Zu hc (hk := ?_) | refine Ze hc (hk := ?_) | refine Zn hc (hk := ?_) | fail))
  all_goals try contradiction
  refine ewp_loop (fun j : Nat => ⟨[(0, .d (wntSl l)), (1, .d (wntSl l)), (12, .d (int l.length)), (13, .d (int j))], []⟩) (fun j => j ≤ l.length) (fun j => l.length - j) 0 (by simp) (run_keep [0, 1, 12, 13] [] (by simp; exact Gives.mk) (by simp; exact Gives.mk)) ?_
  intro j hj
  repeat' (first | (first | refine Ya ?_ | refine Yb ?_ | refine Yc ?_ | refine Yd ?_ | refine Ye ?_ | refine Yf ?_ | refine Yg ?_ | refine Yh ?_ | refine Yi ?_ | refine Yj ?_ | refine Yk ?_ | refine Yl ?_ | refine Ym ?_ | refine Yn ?_ | refine Yo ?_ | refine Yp (h := ?_) | refine Yq ?_ | refine Yr ?_ | refine Ys ?_ | refine Zr hc (hk := ?_) | refine Zd hc (hk := ?_) | (refine Zc (ht := fun hb => ?_) (hf := fun hb => ?_) <;> (try simp at hb)) | fail) | (first | refine Zo hc (hk := ?_) | refine Zu hc (hk := ?_) | refine Ze hc (hk := ?_) | refine Zn hc (hk := ?_) | fail))
  all_goals try contradiction
  · exact ⟨j + 1, by omega, by omega, run_back [0, 1, 12, 13] [] (by simp; exact Gives.mk) (by simp; exact Gives.mk) (by simp)⟩
  · (refine Zl hc (hr := ?_))
    simp
theorem eqNo_ok : FnOk Tryz.prog 61 [.lit (.slice none 0 0), .lit (.slice none 0 0)] (tru true) := by
  refine fnOk Tryz.func61 rfl (by kernel_rfl) Tryz.ntmps61 _ rfl (by simp) fun C hc => ?_
  repeat' (first | (first | refine Ya ?_ | refine Yb ?_ | refine Yc ?_ | refine Yd ?_ | refine Ye ?_ | refine Yf ?_ | refine Yg ?_ | refine Yh ?_ | refine Yi ?_ | refine Yj ?_ | refine Yk ?_ | refine Yl ?_ | refine Ym ?_ | refine Yn ?_ | refine Yo ?_ | refine Yp (h := ?_) | refine Yq ?_ | refine Yr ?_ | refine Ys ?_ | refine Zr hc (hk := ?_) | refine Zd hc (hk := ?_) | (refine Zc (ht := fun hb => ?_) (hf := fun hb => ?_) <;> (try simp at hb)) | fail) | (first | refine Zo hc (hk := ?_) | refine Zu hc (hk := ?_) | refine Ze hc (hk := ?_) | refine Zn hc (hk := ?_) | fail))
  all_goals try contradiction
  refine ewp_loop (fun _ : Unit => ⟨[(12, .d (int 0)), (13, .d (int 0))], []⟩) (fun _ => True) (fun _ => 0) () trivial (run_keep [12, 13] [] (by simp; exact Gives.mk) (by simp; exact Gives.mk)) ?_
  intro _ _
  repeat' (first | (first | refine Ya ?_ | refine Yb ?_ | refine Yc ?_ | refine Yd ?_ | refine Ye ?_ | refine Yf ?_ | refine Yg ?_ | refine Yh ?_ | refine Yi ?_ | refine Yj ?_ | refine Yk ?_ | refine Yl ?_ | refine Ym ?_ | refine Yn ?_ | refine Yo ?_ | refine Yp (h := ?_) | refine Yq ?_ | refine Yr ?_ | refine Ys ?_ | refine Zr hc (hk := ?_) | refine Zd hc (hk := ?_) | (refine Zc (ht := fun hb => ?_) (hf := fun hb => ?_) <;> (try simp at hb)) | fail) | (first | refine Zo hc (hk := ?_) | refine Zu hc (hk := ?_) | refine Ze hc (hk := ?_) | refine Zn hc (hk := ?_) | fail))
  all_goals try contradiction
  (refine Zl hc (hr := ?_))
  simp
theorem same_ok (f : Frt) (hf : FrOk f) : FnOk Tryz.prog 19 [frD f, frD f] (tru true) := by
  refine fnOk Tryz.func19 rfl (by kernel_rfl) Tryz.ntmps19 _ rfl (by simp) fun C hc => ?_
  obtain ⟨f1, f2, f3, f4, f5⟩ := hf
  have h1 := eqWnts_ok f.items f1
  have h2 := fun j => eqInts_ok (hstAt f.hosts j).2.2.2 (f5 j)
  obtain ⟨I, H, bu, wi⟩ := f
  simp only at h1 h2 f1 f2 f3 f4 f5
  repeat' (first | (first | refine Ya ?_ | refine Yb ?_ | refine Yc ?_ | refine Yd ?_ | refine Ye ?_ | refine Yf ?_ | refine Yg ?_ | refine Yh ?_ | refine Yi ?_ | refine Yj ?_ | refine Yk ?_ | refine Yl ?_ | refine Ym ?_ | refine Yn ?_ | refine Yo ?_ | refine Yp (h := ?_) | refine Yq ?_ | refine Yr ?_ | refine Ys ?_ | refine Zr hc (hk := ?_) | refine Zd hc (hk := ?_) | (refine Zc (ht := fun hb => ?_) (hf := fun hb => ?_) <;> (try simp at hb)) | fail) | (first | refine Zw hc (hf := by exact h1) (hk := ?_) | refine Zq hc (hf := by exact h1) (hk := ?_) | refine Zo hc (hk := ?_) | refine Zu hc (hk := ?_) | refine Ze hc (hk := ?_) | refine Zn hc (hk := ?_) | fail))
  all_goals try contradiction
  refine ewp_loop (fun j : Nat => ⟨[(2, .bp 2 0), (3, .bp 3 0), (38, .d (hstSl H)), (39, .d (int H.length)), (40, .d (int j))], [(2, .box 25 [.d (wntSl I), .d (hstSl H), .d (int bu), .d (int wi)]), (3, .box 25 [.d (wntSl I), .d (hstSl H), .d (int bu), .d (int wi)])]⟩) (fun j => j ≤ H.length) (fun j => H.length - j) 0 (by simp) (run_keep [2, 3, 38, 39, 40] [2, 3] (by simp; exact Gives.mk) (by simp; exact Gives.mk)) ?_
  intro j hj
  have h2 := h2 j
  repeat' (first | (first | refine Ya ?_ | refine Yb ?_ | refine Yc ?_ | refine Yd ?_ | refine Ye ?_ | refine Yf ?_ | refine Yg ?_ | refine Yh ?_ | refine Yi ?_ | refine Yj ?_ | refine Yk ?_ | refine Yl ?_ | refine Ym ?_ | refine Yn ?_ | refine Yo ?_ | refine Yp (h := ?_) | refine Yq ?_ | refine Yr ?_ | refine Ys ?_ | refine Zr hc (hk := ?_) | refine Zd hc (hk := ?_) | (refine Zc (ht := fun hb => ?_) (hf := fun hb => ?_) <;> (try simp at hb)) | fail) | (first | refine Zw hc (hf := by exact h2) (hk := ?_) | refine Zq hc (hf := by exact h2) (hk := ?_) | refine Zo hc (hk := ?_) | refine Zu hc (hk := ?_) | refine Ze hc (hk := ?_) | refine Zn hc (hk := ?_) | fail))
  all_goals try contradiction
  · exact ⟨j + 1, by omega, by omega, run_back [2, 3, 38, 39, 40] [2, 3] (by simp; exact Gives.mk) (by simp; exact Gives.mk) (by simp)⟩
  · (refine Zl hc (hr := ?_))
    simp
theorem sameNo_ok : FnOk Tryz.prog 19 [frNo, frNo] (tru true) := by
  unfold frNo
  refine fnOk Tryz.func19 rfl (by kernel_rfl) Tryz.ntmps19 _ rfl (by simp) fun C hc => ?_
  have h1 := eqNo_ok
  repeat' (first | (first | refine Ya ?_ | refine Yb ?_ | refine Yc ?_ | refine Yd ?_ | refine Ye ?_ | refine Yf ?_ | refine Yg ?_ | refine Yh ?_ | refine Yi ?_ | refine Yj ?_ | refine Yk ?_ | refine Yl ?_ | refine Ym ?_ | refine Yn ?_ | refine Yo ?_ | refine Yp (h := ?_) | refine Yq ?_ | refine Yr ?_ | refine Ys ?_ | refine Zr hc (hk := ?_) | refine Zd hc (hk := ?_) | (refine Zc (ht := fun hb => ?_) (hf := fun hb => ?_) <;> (try simp at hb)) | fail) | (first | refine Zw hc (hf := by exact h1) (hk := ?_) | refine Zq hc (hf := by exact h1) (hk := ?_) | refine Zo hc (hk := ?_) | refine Zu hc (hk := ?_) | refine Ze hc (hk := ?_) | refine Zn hc (hk := ?_) | fail))
  all_goals try contradiction
  refine ewp_loop (fun _ : Unit => ⟨[(39, .d (int 0)), (40, .d (int 0))], []⟩) (fun _ => True) (fun _ => 0) () trivial (run_keep [39, 40] [] (by simp; exact Gives.mk) (by simp; exact Gives.mk)) ?_
  intro _ _
  repeat' (first | (first | refine Ya ?_ | refine Yb ?_ | refine Yc ?_ | refine Yd ?_ | refine Ye ?_ | refine Yf ?_ | refine Yg ?_ | refine Yh ?_ | refine Yi ?_ | refine Yj ?_ | refine Yk ?_ | refine Yl ?_ | refine Ym ?_ | refine Yn ?_ | refine Yo ?_ | refine Yp (h := ?_) | refine Yq ?_ | refine Yr ?_ | refine Ys ?_ | refine Zr hc (hk := ?_) | refine Zd hc (hk := ?_) | (refine Zc (ht := fun hb => ?_) (hf := fun hb => ?_) <;> (try simp at hb)) | fail) | (first | refine Zo hc (hk := ?_) | refine Zu hc (hk := ?_) | refine Ze hc (hk := ?_) | refine Zn hc (hk := ?_) | fail))
  all_goals try contradiction
  (refine Zl hc (hr := ?_))
  simp
end Go.Proofs.YtnainpghpjelcaaGreatDoor
/-
  FRONTIER: FrontierTakesMatchSpec's own walk. (WITH run_drawN.)
-/
set_option linter.unusedSimpArgs false
set_option linter.unusedVariables false
namespace Go.Proofs.YtnainpghpjelcaaGreatDoor
open Go.Lw Go.RowKit
set_option maxRecDepth 100000
set_option maxHeartbeats 8000000

theorem takeD_cases (f : Frt) (t : Int) (hf : FrOk f) : ∃ (g : Option Frt) (w : Wnt) (e : Nat), (∀ x, g = some x → FrOk x) ∧ takeD f t = .tup [match g with | some x => frD x | none => frNo, wntD w, int e] := by
  unfold takeD
  by_cases h : takeE f t = 0
  · rw [if_neg (fun e => e h)]
    exact ⟨some _, _, 0, fun x hx => by cases hx; exact good_frOk (take_good (takeE_ok h)), rfl⟩
  · rw [if_pos h]
    exact ⟨none, _, _, fun x hx => (by cases hx), rfl⟩
theorem doneD_cases (f : Frt) (s : Bs) (t k d : Int) (hf : FrOk f) : ∃ (g : Option Frt) (e : Nat), (∀ x, g = some x → FrOk x) ∧ doneD f s t k d = .tup [match g with | some x => frD x | none => frNo, int e] := by
  unfold doneD
  by_cases h : doneE f s t k d = 0
  · rw [if_neg (fun e => e h)]
    exact ⟨some _, 0, fun x hx => by cases hx; exact good_frOk (done_good h), rfl⟩
  · rw [if_pos h]
    exact ⟨none, _, fun x hx => (by cases hx), rfl⟩
theorem takesSpec_ok (f : Frt) (t : Int) (s : Bs) (k d : Int) (hf : FrOk f) : FnOk Tryz.prog 12 [frD f, int t, str s, int k, int d] (tru true) := by
  refine fnOk Tryz.func12 rfl (by kernel_rfl) Tryz.ntmps12 _ rfl (by simp) fun C hc => ?_
  have h1 := frTake_ok f t hf
  have h2 := qTake_ok f t hf
  have h5 := frDone_ok f s t k d hf
  have h6 := qDone_ok f s t k d hf
  obtain ⟨g1, w1, e1, k1, r1⟩ := takeD_cases f t hf
  obtain ⟨g2, e2, k2, r2⟩ := doneD_cases f s t k d hf
  rw [r1] at h1 h2
  rw [r2] at h5 h6
  clear r1 r2
  have hN := sameNo_ok
  cases g1 <;> cases g2
  · simp only at h1 h2 h5 h6
    unfold frNo at h1 h2 h5 h6 hN
    repeat' (first | (first | refine Ya ?_ | refine Yb ?_ | refine Yc ?_ | refine Yd ?_ | refine Ye ?_ | refine Yf ?_ | refine Yg ?_ | refine Yh ?_ | refine Yi ?_ | refine Yj ?_ | refine Yk ?_ | refine Yl ?_ | refine Ym ?_ | refine Yn ?_ | refine Yo ?_ | refine Yp (h := ?_) | refine Yq ?_ | refine Yr ?_ | refine Ys ?_ | refine Zr hc (hk := ?_) | refine Zd hc (hk := ?_) | (refine Zc (ht := fun hb => ?_) (hf := fun hb => ?_) <;> (try simp at hb)) | fail) | (first | refine Zw hc (hf := by first | exact h1 | exact h2 | exact h5 | exact h6 | exact hN | exact awake5_ok) (hk := ?_) | refine Zq hc (hf := by first | exact h1 | exact h2 | exact h5 | exact h6 | exact hN | exact awake5_ok) (hk := ?_) | refine Zo hc (hk := ?_) | refine Zu hc (hk := ?_) | refine Ze hc (hk := ?_) | refine Zn hc (hk := ?_) | fail))
    all_goals try contradiction
    all_goals (refine Zl hc (hr := ?_))
    all_goals simp
  · rename_i x2
    have s2 := same_ok x2 (k2 x2 rfl)
    simp only at h1 h2 h5 h6
    unfold frNo at h1 h2 hN
    repeat' (first | (first | refine Ya ?_ | refine Yb ?_ | refine Yc ?_ | refine Yd ?_ | refine Ye ?_ | refine Yf ?_ | refine Yg ?_ | refine Yh ?_ | refine Yi ?_ | refine Yj ?_ | refine Yk ?_ | refine Yl ?_ | refine Ym ?_ | refine Yn ?_ | refine Yo ?_ | refine Yp (h := ?_) | refine Yq ?_ | refine Yr ?_ | refine Ys ?_ | refine Zr hc (hk := ?_) | refine Zd hc (hk := ?_) | (refine Zc (ht := fun hb => ?_) (hf := fun hb => ?_) <;> (try simp at hb)) | fail) | (first | refine Zw hc (hf := by first | exact h1 | exact h2 | exact h5 | exact h6 | exact hN | exact s2 | exact awake5_ok) (hk := ?_) | refine Zq hc (hf := by first | exact h1 | exact h2 | exact h5 | exact h6 | exact hN | exact s2 | exact awake5_ok) (hk := ?_) | refine Zo hc (hk := ?_) | refine Zu hc (hk := ?_) | refine Ze hc (hk := ?_) | refine Zn hc (hk := ?_) | fail))
    all_goals try contradiction
    all_goals (refine Zl hc (hr := ?_))
    all_goals simp
  · rename_i x1
    have s1 := same_ok x1 (k1 x1 rfl)
    simp only at h1 h2 h5 h6
    unfold frNo at h5 h6 hN
    repeat' (first | (first | refine Ya ?_ | refine Yb ?_ | refine Yc ?_ | refine Yd ?_ | refine Ye ?_ | refine Yf ?_ | refine Yg ?_ | refine Yh ?_ | refine Yi ?_ | refine Yj ?_ | refine Yk ?_ | refine Yl ?_ | refine Ym ?_ | refine Yn ?_ | refine Yo ?_ | refine Yp (h := ?_) | refine Yq ?_ | refine Yr ?_ | refine Ys ?_ | refine Zr hc (hk := ?_) | refine Zd hc (hk := ?_) | (refine Zc (ht := fun hb => ?_) (hf := fun hb => ?_) <;> (try simp at hb)) | fail) | (first | refine Zw hc (hf := by first | exact h1 | exact h2 | exact h5 | exact h6 | exact hN | exact s1 | exact awake5_ok) (hk := ?_) | refine Zq hc (hf := by first | exact h1 | exact h2 | exact h5 | exact h6 | exact hN | exact s1 | exact awake5_ok) (hk := ?_) | refine Zo hc (hk := ?_) | refine Zu hc (hk := ?_) | refine Ze hc (hk := ?_) | refine Zn hc (hk := ?_) | fail))
    all_goals try contradiction
    all_goals (refine Zl hc (hr := ?_))
    all_goals simp
  · rename_i x1 x2
    have s1 := same_ok x1 (k1 x1 rfl)
    have s2 := same_ok x2 (k2 x2 rfl)
    simp only at h1 h2 h5 h6
    repeat' (first | (first | refine Ya ?_ | refine Yb ?_ | refine Yc ?_ | refine Yd ?_ | refine Ye ?_ | refine Yf ?_ | refine Yg ?_ | refine Yh ?_ | refine Yi ?_ | refine Yj ?_ | refine Yk ?_ | refine Yl ?_ | refine Ym ?_ | refine Yn ?_ | refine Yo ?_ | refine Yp (h := ?_) | refine Yq ?_ | refine Yr ?_ | refine Ys ?_ | refine Zr hc (hk := ?_) | refine Zd hc (hk := ?_) | (refine Zc (ht := fun hb => ?_) (hf := fun hb => ?_) <;> (try simp at hb)) | fail) | (first | refine Zw hc (hf := by first | exact h1 | exact h2 | exact h5 | exact h6 | exact s1 | exact s2 | exact awake5_ok) (hk := ?_) | refine Zq hc (hf := by first | exact h1 | exact h2 | exact h5 | exact h6 | exact s1 | exact s2 | exact awake5_ok) (hk := ?_) | refine Zo hc (hk := ?_) | refine Zu hc (hk := ?_) | refine Ze hc (hk := ?_) | refine Zn hc (hk := ?_) | fail))
    all_goals try contradiction
    all_goals (refine Zl hc (hr := ?_))
    all_goals simp
theorem takesSpecF_ok (f : Frt) (t : Int) (s : Bs) (k d : Int) (hf : FrFits f) : FnOk Tryz.prog 12 [frD f, int t, str s, int k, int d] (tru true) := takesSpec_ok f t s k d (frOk_of hf)
end Go.Proofs.YtnainpghpjelcaaGreatDoor
