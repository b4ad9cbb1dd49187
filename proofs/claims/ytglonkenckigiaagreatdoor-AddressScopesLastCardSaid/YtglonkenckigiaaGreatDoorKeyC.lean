/-
  ADDRESS: Key without rules, OfKey; AddressKeysComeBack's own walk. (WITH run_drawN.)
-/
import Derived.Test.YtglonkenckigiaaGreatDoorKeyB
set_option linter.unusedSimpArgs false
set_option linter.unusedVariables false
namespace Go.Proofs.YtglonkenckigiaaGreatDoor
open Go.Lw Go.RowKit
set_option maxRecDepth 100000
set_option maxHeartbeats 2000000

theorem checkSame0_ok : FnOk Tryz.prog 36 [noL] (int (0 : Nat)) := by
  refine fnOk Tryz.func36 rfl (by kernel_rfl) Tryz.ntmps36 _ rfl (by simp) fun C hc => ?_
  repeat' (first | (first | refine Ya ?_ | refine Yb ?_ | refine Yc ?_ | refine Yd ?_ | refine Ye ?_ | refine Yf ?_ | refine Yg ?_ | refine Yh ?_ | refine Yi ?_ | refine Yj ?_ | refine Yk ?_ | refine Yl ?_ | refine Ym ?_ | refine Yn ?_ | refine Yo ?_ | refine Yp (h := ?_) | refine Yq ?_ | refine Yr ?_ | refine Ys ?_ | refine Zr hc (hk := ?_) | refine Zd hc (hk := ?_) | (refine Zc (ht := fun hb => ?_) (hf := fun hb => ?_) <;> (try simp at hb)) | fail) | (first | refine Zo hc (hk := ?_) | refine Zu hc (hk := ?_) | refine Ze hc (hk := ?_) | refine Zn hc (hk := ?_) | fail))
  all_goals try contradiction
  refine ewp_loop (fun _ : Unit => ⟨[(10, .d (int 0)), (11, .d (int 0))], []⟩) (fun _ => True) (fun _ => 0) () trivial (run_keep [10, 11] [] (by simp; exact Gives.mk) (by simp; exact Gives.mk)) ?_
  rintro _ _
  repeat' (first | (first | refine Ya ?_ | refine Yb ?_ | refine Yc ?_ | refine Yd ?_ | refine Ye ?_ | refine Yf ?_ | refine Yg ?_ | refine Yh ?_ | refine Yi ?_ | refine Yj ?_ | refine Yk ?_ | refine Yl ?_ | refine Ym ?_ | refine Yn ?_ | refine Yo ?_ | refine Yp (h := ?_) | refine Yq ?_ | refine Yr ?_ | refine Ys ?_ | refine Zr hc (hk := ?_) | refine Zd hc (hk := ?_) | (refine Zc (ht := fun hb => ?_) (hf := fun hb => ?_) <;> (try simp at hb)) | fail) | (first | refine Zo hc (hk := ?_) | refine Zu hc (hk := ?_) | refine Ze hc (hk := ?_) | refine Zn hc (hk := ?_) | fail))
  all_goals try contradiction
  (refine Zl hc (hr := ?_))
  simp
theorem keyF0_ok (a : Adr) (hf : a.Fits) : FnOk Tryz.prog 27 [adrD a, noL] (.tup [str (key0C a).1, int (key0C a).2]) := by
  refine fnOk Tryz.func27 rfl (by kernel_rfl) Tryz.ntmps27 _ rfl (by simp) fun C hc => ?_
  have hC := check_ok a hf
  have hN := normal_ok' normal_is a hf
  have hS := checkSame0_ok
  unfold key0C
  by_cases h1 : chkC a = 0
  rotate_left
  · rw [if_pos h1]
    repeat' (first | (first | refine Ya ?_ | refine Yb ?_ | refine Yc ?_ | refine Yd ?_ | refine Ye ?_ | refine Yf ?_ | refine Yg ?_ | refine Yh ?_ | refine Yi ?_ | refine Yj ?_ | refine Yk ?_ | refine Yl ?_ | refine Ym ?_ | refine Yn ?_ | refine Yo ?_ | refine Yp (h := ?_) | refine Yq ?_ | refine Yr ?_ | refine Ys ?_ | refine Zr hc (hk := ?_) | refine Zd hc (hk := ?_) | (refine Zc (ht := fun hb => ?_) (hf := fun hb => ?_) <;> (try simp at hb)) | fail) | (first | refine Zw hc (hf := by exact hC) (hk := ?_) | refine Zq hc (hf := by exact hC) (hk := ?_) | refine Zo hc (hk := ?_) | refine Zu hc (hk := ?_) | refine Ze hc (hk := ?_) | refine Zn hc (hk := ?_) | fail))
    all_goals try contradiction
    (refine Zl hc (hr := ?_))
    simp
  rw [if_neg (fun h => h h1)]
  rw [h1] at hC
  have hK := key0_ok a h1
  by_cases h2 : chkC (normA a) = 0
  · rw [if_neg (fun h => h h2)]
    have e : normalC a = (normA a, 0) := by unfold normalC; rw [if_neg (fun h => h h1), if_neg (fun h => h h2)]
    rw [e] at hN
    generalize normA a = b at hN
    repeat' (first | (first | refine Ya ?_ | refine Yb ?_ | refine Yc ?_ | refine Yd ?_ | refine Ye ?_ | refine Yf ?_ | refine Yg ?_ | refine Yh ?_ | refine Yi ?_ | refine Yj ?_ | refine Yk ?_ | refine Yl ?_ | refine Ym ?_ | refine Yn ?_ | refine Yo ?_ | refine Yp (h := ?_) | refine Yq ?_ | refine Yr ?_ | refine Ys ?_ | refine Zr hc (hk := ?_) | refine Zd hc (hk := ?_) | (refine Zc (ht := fun hb => ?_) (hf := fun hb => ?_) <;> (try simp at hb)) | fail) | (first | refine Zw hc (hf := by first | exact hC | exact hS | exact hN | exact hK) (hk := ?_) | refine Zq hc (hf := by first | exact hC | exact hS | exact hN | exact hK) (hk := ?_) | refine Zo hc (hk := ?_) | refine Zu hc (hk := ?_) | refine Ze hc (hk := ?_) | refine Zn hc (hk := ?_) | fail))
    all_goals try contradiction
    (refine Zl hc (hr := ?_))
    simp
  · rw [if_pos h2]
    have e : normalC a = (Adr.zero, chkC (normA a)) := by unfold normalC; rw [if_neg (fun h => h h1), if_pos h2]
    rw [e] at hN
    generalize chkC (normA a) = k at hN h2 ⊢
    repeat' (first | (first | refine Ya ?_ | refine Yb ?_ | refine Yc ?_ | refine Yd ?_ | refine Ye ?_ | refine Yf ?_ | refine Yg ?_ | refine Yh ?_ | refine Yi ?_ | refine Yj ?_ | refine Yk ?_ | refine Yl ?_ | refine Ym ?_ | refine Yn ?_ | refine Yo ?_ | refine Yp (h := ?_) | refine Yq ?_ | refine Yr ?_ | refine Ys ?_ | refine Zr hc (hk := ?_) | refine Zd hc (hk := ?_) | (refine Zc (ht := fun hb => ?_) (hf := fun hb => ?_) <;> (try simp at hb)) | fail) | (first | refine Zw hc (hf := by first | exact hC | exact hS | exact hN | exact hK) (hk := ?_) | refine Zq hc (hf := by first | exact hC | exact hS | exact hN | exact hK) (hk := ?_) | refine Zo hc (hk := ?_) | refine Zu hc (hk := ?_) | refine Ze hc (hk := ?_) | refine Zn hc (hk := ?_) | fail))
    all_goals try contradiction
    (refine Zl hc (hr := ?_))
    simp
theorem ofKeyF_ok (s : Bs) (hm : s.length ≤ 9223372036854775807) : FnOk Tryz.prog 26 [str s] (.tup [adrD (ofK s).1, int (ofK s).2]) := by
  refine fnOk Tryz.func26 rfl (by kernel_rfl) Tryz.ntmps26 _ rfl (by simp) fun C hc => ?_
  have h := ofKey_ok s hm
  generalize ofK s = x at h ⊢
  repeat' (first | (first | refine Ya ?_ | refine Yb ?_ | refine Yc ?_ | refine Yd ?_ | refine Ye ?_ | refine Yf ?_ | refine Yg ?_ | refine Yh ?_ | refine Yi ?_ | refine Yj ?_ | refine Yk ?_ | refine Yl ?_ | refine Ym ?_ | refine Yn ?_ | refine Yo ?_ | refine Yp (h := ?_) | refine Yq ?_ | refine Yr ?_ | refine Ys ?_ | refine Zr hc (hk := ?_) | refine Zd hc (hk := ?_) | (refine Zc (ht := fun hb => ?_) (hf := fun hb => ?_) <;> (try simp at hb)) | fail) | (first | refine Zw hc (hf := by exact h) (hk := ?_) | refine Zq hc (hf := by exact h) (hk := ?_) | refine Zo hc (hk := ?_) | refine Zu hc (hk := ?_) | refine Ze hc (hk := ?_) | refine Zn hc (hk := ?_) | fail))
  (refine Zl hc (hr := ?_))
  simp
theorem key0_back {x : Adr} {t : Bs} (h1 : chkC x = 0) (h2 : normA x = x) (h3 : keyN x = t) : key0C x = (t, 0) := by
  unfold key0C
  rw [if_neg (fun h => h h1), if_neg (fun h => h (by rw [h2]; exact h1))]
  unfold keyC
  rw [h2, h3]
theorem keysBack_ok (a : Adr) (t : Bs) (hf : a.Fits) (ht : t.length ≤ maxLen) : FnOk Tryz.prog 7 [adrD a, str t] (tru true) := by
  have hm : t.length ≤ 9223372036854775807 := by simp only [maxLen] at ht; omega
  refine fnOk Tryz.func7 rfl (by kernel_rfl) Tryz.ntmps7 _ rfl (by simp) fun C hc => ?_
  have hO := ofKeyF_ok t hm
  have hcase := ofK_cases t
  have hx : (ofK t).2 = 0 → FnOk Tryz.prog 27 [adrD (ofK t).1, noL] (.tup [str t, int (0 : Nat)]) := by
    intro hz
    rcases hcase with h | ⟨_, _, h1, h2, h3⟩
    · exact absurd hz h.1
    · have := keyF0_ok (ofK t).1 (chk_fits h1)
      rw [key0_back h1 h2 h3] at this
      exact this
  rcases hz : ofK t with ⟨x, f⟩
  rw [hz] at hO hx
  simp only at hO hx
  have hK := keyF0_ok a hf
  have hN := normal_ok' normal_is a hf
  by_cases h1 : chkC a = 0
  rotate_left
  · have e : key0C a = ([], chkC a) := by unfold key0C; rw [if_pos h1]
    rw [e] at hK
    generalize chkC a = k at hK h1
    by_cases hf0 : f = 0
    · have hx2 := hx hf0
      clear hx
      subst hf0
      repeat' (first | (first | refine Ya ?_ | refine Yb ?_ | refine Yc ?_ | refine Yd ?_ | refine Ye ?_ | refine Yf ?_ | refine Yg ?_ | refine Yh ?_ | refine Yi ?_ | refine Yj ?_ | refine Yk ?_ | refine Yl ?_ | refine Ym ?_ | refine Yn ?_ | refine Yo ?_ | refine Yp (h := ?_) | refine Yq ?_ | refine Yr ?_ | refine Ys ?_ | refine Zr hc (hk := ?_) | refine Zd hc (hk := ?_) | (refine Zc (ht := fun hb => ?_) (hf := fun hb => ?_) <;> (try simp at hb)) | fail) | (first | refine Zw hc (hf := by first | exact hO | exact hx2 | exact hK | exact awake_ok) (hk := ?_) | refine Zq hc (hf := by first | exact hO | exact hx2 | exact hK | exact awake_ok) (hk := ?_) | refine Zo hc (hk := ?_) | refine Zu hc (hk := ?_) | refine Ze hc (hk := ?_) | refine Zn hc (hk := ?_) | fail))
      all_goals try contradiction
      (refine Zl hc (hr := ?_))
      simp
    · repeat' (first | (first | refine Ya ?_ | refine Yb ?_ | refine Yc ?_ | refine Yd ?_ | refine Ye ?_ | refine Yf ?_ | refine Yg ?_ | refine Yh ?_ | refine Yi ?_ | refine Yj ?_ | refine Yk ?_ | refine Yl ?_ | refine Ym ?_ | refine Yn ?_ | refine Yo ?_ | refine Yp (h := ?_) | refine Yq ?_ | refine Yr ?_ | refine Ys ?_ | refine Zr hc (hk := ?_) | refine Zd hc (hk := ?_) | (refine Zc (ht := fun hb => ?_) (hf := fun hb => ?_) <;> (try simp at hb)) | fail) | (first | refine Zw hc (hf := by first | exact hO | exact hK | exact awake_ok) (hk := ?_) | refine Zq hc (hf := by first | exact hO | exact hK | exact awake_ok) (hk := ?_) | refine Zo hc (hk := ?_) | refine Zu hc (hk := ?_) | refine Ze hc (hk := ?_) | refine Zn hc (hk := ?_) | fail))
      all_goals try contradiction
      (refine Zl hc (hr := ?_))
      simp
  by_cases h2 : chkC (normA a) = 0
  rotate_left
  · have e : key0C a = ([], chkC (normA a)) := by unfold key0C; rw [if_neg (fun h => h h1), if_pos h2]
    rw [e] at hK
    generalize chkC (normA a) = k at hK h2
    by_cases hf0 : f = 0
    · have hx2 := hx hf0
      clear hx
      subst hf0
      repeat' (first | (first | refine Ya ?_ | refine Yb ?_ | refine Yc ?_ | refine Yd ?_ | refine Ye ?_ | refine Yf ?_ | refine Yg ?_ | refine Yh ?_ | refine Yi ?_ | refine Yj ?_ | refine Yk ?_ | refine Yl ?_ | refine Ym ?_ | refine Yn ?_ | refine Yo ?_ | refine Yp (h := ?_) | refine Yq ?_ | refine Yr ?_ | refine Ys ?_ | refine Zr hc (hk := ?_) | refine Zd hc (hk := ?_) | (refine Zc (ht := fun hb => ?_) (hf := fun hb => ?_) <;> (try simp at hb)) | fail) | (first | refine Zw hc (hf := by first | exact hO | exact hx2 | exact hK | exact awake_ok) (hk := ?_) | refine Zq hc (hf := by first | exact hO | exact hx2 | exact hK | exact awake_ok) (hk := ?_) | refine Zo hc (hk := ?_) | refine Zu hc (hk := ?_) | refine Ze hc (hk := ?_) | refine Zn hc (hk := ?_) | fail))
      all_goals try contradiction
      (refine Zl hc (hr := ?_))
      simp
    · repeat' (first | (first | refine Ya ?_ | refine Yb ?_ | refine Yc ?_ | refine Yd ?_ | refine Ye ?_ | refine Yf ?_ | refine Yg ?_ | refine Yh ?_ | refine Yi ?_ | refine Yj ?_ | refine Yk ?_ | refine Yl ?_ | refine Ym ?_ | refine Yn ?_ | refine Yo ?_ | refine Yp (h := ?_) | refine Yq ?_ | refine Yr ?_ | refine Ys ?_ | refine Zr hc (hk := ?_) | refine Zd hc (hk := ?_) | (refine Zc (ht := fun hb => ?_) (hf := fun hb => ?_) <;> (try simp at hb)) | fail) | (first | refine Zw hc (hf := by first | exact hO | exact hK | exact awake_ok) (hk := ?_) | refine Zq hc (hf := by first | exact hO | exact hK | exact awake_ok) (hk := ?_) | refine Zo hc (hk := ?_) | refine Zu hc (hk := ?_) | refine Ze hc (hk := ?_) | refine Zn hc (hk := ?_) | fail))
      all_goals try contradiction
      (refine Zl hc (hr := ?_))
      simp
  have e : key0C a = (keyC a, 0) := by unfold key0C; rw [if_neg (fun h => h h1), if_neg (fun h => h h2)]
  rw [e] at hK
  have hkl : (keyC a).length ≤ 2000 := by
    have := keyN_len (good_norm ((chk_iff a).1 h1).1)
    have := ((chk_iff _).1 h2).2
    unfold keyC
    omega
  have hO2 := ofKeyF_ok (keyC a) (by omega)
  rw [ofK_key h1 h2] at hO2
  have e2 : normalC a = (normA a, 0) := by unfold normalC; rw [if_neg (fun h => h h1), if_neg (fun h => h h2)]
  rw [e2] at hN
  generalize keyC a = kk at hK hO2
  generalize normA a = b at hN hO2
  by_cases hf0 : f = 0
  · have hx2 := hx hf0
    clear hx
    subst hf0
    repeat' (first | (first | refine Ya ?_ | refine Yb ?_ | refine Yc ?_ | refine Yd ?_ | refine Ye ?_ | refine Yf ?_ | refine Yg ?_ | refine Yh ?_ | refine Yi ?_ | refine Yj ?_ | refine Yk ?_ | refine Yl ?_ | refine Ym ?_ | refine Yn ?_ | refine Yo ?_ | refine Yp (h := ?_) | refine Yq ?_ | refine Yr ?_ | refine Ys ?_ | refine Zr hc (hk := ?_) | refine Zd hc (hk := ?_) | (refine Zc (ht := fun hb => ?_) (hf := fun hb => ?_) <;> (try simp at hb)) | fail) | (first | refine Zw hc (hf := by first | exact hO | exact hx2 | exact hK | exact hO2 | exact hN | exact awake_ok) (hk := ?_) | refine Zq hc (hf := by first | exact hO | exact hx2 | exact hK | exact hO2 | exact hN | exact awake_ok) (hk := ?_) | refine Zo hc (hk := ?_) | refine Zu hc (hk := ?_) | refine Ze hc (hk := ?_) | refine Zn hc (hk := ?_) | fail))
    all_goals try contradiction
    (refine Zl hc (hr := ?_))
    simp
  · repeat' (first | (first | refine Ya ?_ | refine Yb ?_ | refine Yc ?_ | refine Yd ?_ | refine Ye ?_ | refine Yf ?_ | refine Yg ?_ | refine Yh ?_ | refine Yi ?_ | refine Yj ?_ | refine Yk ?_ | refine Yl ?_ | refine Ym ?_ | refine Yn ?_ | refine Yo ?_ | refine Yp (h := ?_) | refine Yq ?_ | refine Yr ?_ | refine Ys ?_ | refine Zr hc (hk := ?_) | refine Zd hc (hk := ?_) | (refine Zc (ht := fun hb => ?_) (hf := fun hb => ?_) <;> (try simp at hb)) | fail) | (first | refine Zw hc (hf := by first | exact hO | exact hK | exact hO2 | exact hN | exact awake_ok) (hk := ?_) | refine Zq hc (hf := by first | exact hO | exact hK | exact hO2 | exact hN | exact awake_ok) (hk := ?_) | refine Zo hc (hk := ?_) | refine Zu hc (hk := ?_) | refine Ze hc (hk := ?_) | refine Zn hc (hk := ?_) | fail))
    all_goals try contradiction
    (refine Zl hc (hr := ?_))
    simp
end Go.Proofs.YtglonkenckigiaaGreatDoor
