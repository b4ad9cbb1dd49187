/-
  CHAPTER 1's REFERENCE: paths of keys by rules. (WITH run_drawN.)
-/
import Derived.Test.YtglonkenckigiaaGreatDoorKeyV
set_option linter.unusedSimpArgs false
set_option linter.unusedVariables false
namespace Go.Proofs.YtglonkenckigiaaGreatDoor
open Go.Lw Go.RowKit
set_option maxRecDepth 100000
set_option maxHeartbeats 1000000

theorem qPathOf_ok (p : Bs) (L : List Rul) (hp : p.length ≤ 100000) (hm : L.length ≤ 200000) (hpc : pcOk p) (h0 : ((5, []) : Rul) ∉ L) : FnOk Tryz.prog 113 [str p, rulSl L] (str (pathK p L)) := by
  refine fnOk Tryz.func113 rfl (by kernel_rfl) Tryz.ntmps113 _ rfl (by simp) fun C hc => ?_
  have hs := qSmallPath_ok p hp hpc
  have h3 := says_ok L 3 [] hm
  have h4 := says_ok L 4 [] hm
  obtain ⟨r, hr⟩ : ∃ r, r = if ((3, []) : Rul) ∈ L then smallP p else p := ⟨_, rfl⟩
  have hrl : r.length = p.length := by rw [hr]; split <;> simp [smallP_len]
  unfold pathK
  rw [← hr]
  have h5 := says_ok L 5 (r.drop (lastK r)) hm
  have hB := lastByte_ok r 47 (by omega)
  have hB : FnOk Tryz.prog 100 [str r, u8 47] (int ((lastK r : Int) - 1)) := by rw [← (lastK_at r).1]; exact lastByte_ok r 47 (by omega)
  have hk := (lastK_at r).2
  have e5 : noTail L r = if r.drop (lastK r) ≠ [] ∧ decide ((5, r.drop (lastK r)) ∈ L) = true then r.take (lastK r) else r := by unfold noTail; simp
  have h5e : r.drop (lastK r) = [] → decide ((5, r.drop (lastK r)) ∈ L) = false := fun e => by rw [e]; exact decide_eq_false h0
  rw [e5]
  clear e5
  generalize decide ((5, r.drop (lastK r)) ∈ L) = b5 at h5 h5e ⊢
  generalize lastK r = k at h5 h5e hB hk ⊢
  have e6 : (if r.drop k ≠ [] ∧ b5 = true then r.take k else r) = if b5 = true then r.take k else r := by
    by_cases hd : r.drop k = []
    · rw [if_neg (fun e => e.1 hd), h5e hd, if_neg (by simp)]
    · cases b5
      · rw [if_neg (fun e => by cases e.2), if_neg (by simp)]
      · rw [if_pos ⟨hd, rfl⟩, if_pos rfl]
  rw [e6]
  clear e6 h5e
  have e4 : ∀ x : Bs, (if ((4, []) : Rul) ∈ L then stripS x else x) = if decide (((4, []) : Rul) ∈ L) = true then stripS x else x := by intro x; simp
  rw [e4]
  generalize decide ((4, []) ∈ L) = b4 at h4 ⊢
  by_cases b3 : ((3, []) : Rul) ∈ L
  · rw [if_pos b3] at hr
    rw [← hr] at hs
    rw [decide_eq_true b3] at h3
    clear hr
    cases b4
    · repeat' (first | (first | refine Ya ?_ | refine Yb ?_ | refine Yc ?_ | refine Yd ?_ | refine Ye ?_ | refine Yf ?_ | refine Yg ?_ | refine Yh ?_ | refine Yi ?_ | refine Yj ?_ | refine Yk ?_ | refine Yl ?_ | refine Ym ?_ | refine Yn ?_ | refine Yo ?_ | refine Yp (h := ?_) | refine Yq ?_ | refine Yr ?_ | refine Ys ?_ | refine Zr hc (hk := ?_) | refine Zd hc (hk := ?_) | (refine Zc (ht := fun hb => ?_) (hf := fun hb => ?_) <;> (try simp at hb)) | fail) | (first | refine Zw hc (hf := by first | exact h3 | exact hs | exact hB | exact h5) (hk := ?_) | refine Zq hc (hf := by first | exact h3 | exact hs | exact hB | exact h5) (hk := ?_) | refine Zo hc (hk := ?_) | refine Zu hc (hk := ?_) | refine Ze hc (hk := ?_) | refine Zn hc (hk := ?_) | fail))
      · rw [if_neg (by simp), if_pos hb]
        generalize hxr : r.take k = x0
        refine ewp_loop (fun _ : Unit => ⟨[(0, .d (str x0)), (1, .d (rulSl L))], []⟩) (fun _ => True) (fun _ => 0) () trivial (run_keep [0, 1] [] (by simp; exact Gives.mk) (by simp; exact Gives.mk)) ?_
        rintro _ _
        repeat' (first | (first | refine Ya ?_ | refine Yb ?_ | refine Yc ?_ | refine Yd ?_ | refine Ye ?_ | refine Yf ?_ | refine Yg ?_ | refine Yh ?_ | refine Yi ?_ | refine Yj ?_ | refine Yk ?_ | refine Yl ?_ | refine Ym ?_ | refine Yn ?_ | refine Yo ?_ | refine Yp (h := ?_) | refine Yq ?_ | refine Yr ?_ | refine Ys ?_ | refine Zr hc (hk := ?_) | refine Zd hc (hk := ?_) | (refine Zc (ht := fun hb => ?_) (hf := fun hb => ?_) <;> (try simp at hb)) | fail) | (first | refine Zw hc (hf := by exact h4) (hk := ?_) | refine Zq hc (hf := by exact h4) (hk := ?_) | refine Zo hc (hk := ?_) | refine Zu hc (hk := ?_) | refine Ze hc (hk := ?_) | refine Zn hc (hk := ?_) | fail))
        all_goals try contradiction
        (refine Zl hc (hr := ?_))
        simp
      · rw [if_neg (by simp), if_neg (by simpa using hb)]
        generalize hxr : r = x0
        refine ewp_loop (fun _ : Unit => ⟨[(0, .d (str x0)), (1, .d (rulSl L))], []⟩) (fun _ => True) (fun _ => 0) () trivial (run_keep [0, 1] [] (by simp; exact Gives.mk) (by simp; exact Gives.mk)) ?_
        rintro _ _
        repeat' (first | (first | refine Ya ?_ | refine Yb ?_ | refine Yc ?_ | refine Yd ?_ | refine Ye ?_ | refine Yf ?_ | refine Yg ?_ | refine Yh ?_ | refine Yi ?_ | refine Yj ?_ | refine Yk ?_ | refine Yl ?_ | refine Ym ?_ | refine Yn ?_ | refine Yo ?_ | refine Yp (h := ?_) | refine Yq ?_ | refine Yr ?_ | refine Ys ?_ | refine Zr hc (hk := ?_) | refine Zd hc (hk := ?_) | (refine Zc (ht := fun hb => ?_) (hf := fun hb => ?_) <;> (try simp at hb)) | fail) | (first | refine Zw hc (hf := by exact h4) (hk := ?_) | refine Zq hc (hf := by exact h4) (hk := ?_) | refine Zo hc (hk := ?_) | refine Zu hc (hk := ?_) | refine Ze hc (hk := ?_) | refine Zn hc (hk := ?_) | fail))
        all_goals try contradiction
        (refine Zl hc (hr := ?_))
        simp
    · repeat' (first | (first | refine Ya ?_ | refine Yb ?_ | refine Yc ?_ | refine Yd ?_ | refine Ye ?_ | refine Yf ?_ | refine Yg ?_ | refine Yh ?_ | refine Yi ?_ | refine Yj ?_ | refine Yk ?_ | refine Yl ?_ | refine Ym ?_ | refine Yn ?_ | refine Yo ?_ | refine Yp (h := ?_) | refine Yq ?_ | refine Yr ?_ | refine Ys ?_ | refine Zr hc (hk := ?_) | refine Zd hc (hk := ?_) | (refine Zc (ht := fun hb => ?_) (hf := fun hb => ?_) <;> (try simp at hb)) | fail) | (first | refine Zw hc (hf := by first | exact h3 | exact hs | exact hB | exact h5) (hk := ?_) | refine Zq hc (hf := by first | exact h3 | exact hs | exact hB | exact h5) (hk := ?_) | refine Zo hc (hk := ?_) | refine Zu hc (hk := ?_) | refine Ze hc (hk := ?_) | refine Zn hc (hk := ?_) | fail))
      · rw [if_pos rfl, if_pos hb]
        have hx0 : (r.take k).length ≤ 100000 := by simp; omega
        generalize hxr : r.take k = x0 at hx0 ⊢
        refine ewp_loop (fun x : Bs => ⟨[(0, .d (str x)), (1, .d (rulSl L))], []⟩) (fun x => stripS x = stripS x0 ∧ x.length ≤ 100000) (fun x => x.length) x0 ⟨rfl, hx0⟩ (run_keep [0, 1] [] (by simp; exact Gives.mk) (by simp; exact Gives.mk)) ?_
        rintro x ⟨hs1, hxl⟩
        have hst : stripS x = if 1 < x.length ∧ x[x.length - 1]?.getD 0 = 47 then stripS (x.take (x.length - 1)) else x := by rw [stripS]
        repeat' (first | (first | refine Ya ?_ | refine Yb ?_ | refine Yc ?_ | refine Yd ?_ | refine Ye ?_ | refine Yf ?_ | refine Yg ?_ | refine Yh ?_ | refine Yi ?_ | refine Yj ?_ | refine Yk ?_ | refine Yl ?_ | refine Ym ?_ | refine Yn ?_ | refine Yo ?_ | refine Yp (h := ?_) | refine Yq ?_ | refine Yr ?_ | refine Ys ?_ | refine Zr hc (hk := ?_) | refine Zd hc (hk := ?_) | (refine Zc (ht := fun hb => ?_) (hf := fun hb => ?_) <;> (try simp at hb)) | fail) | (first | refine Zw hc (hf := by exact h4) (hk := ?_) | refine Zq hc (hf := by exact h4) (hk := ?_) | refine Zo hc (hk := ?_) | refine Zu hc (hk := ?_) | refine Ze hc (hk := ?_) | refine Zn hc (hk := ?_) | fail))
        · refine ⟨x.take (x.length - 1), ⟨?_, by simp; omega⟩, by simp; omega, run_back [0, 1] [] (by simp; exact Gives.mk) (by simp; exact Gives.mk) (by simp)⟩
          rw [← hs1, hst, if_pos ⟨by omega, byte47 hb.2⟩]
        · rw [← hs1, hst, if_neg (fun e => hb (by omega) (by rw [e.2]; rfl))]
          (refine Zl hc (hr := ?_))
          simp
      · rw [if_pos rfl, if_neg (by simpa using hb)]
        have hx0 : r.length ≤ 100000 := by omega
        generalize hxr : r = x0 at hx0 ⊢
        refine ewp_loop (fun x : Bs => ⟨[(0, .d (str x)), (1, .d (rulSl L))], []⟩) (fun x => stripS x = stripS x0 ∧ x.length ≤ 100000) (fun x => x.length) x0 ⟨rfl, hx0⟩ (run_keep [0, 1] [] (by simp; exact Gives.mk) (by simp; exact Gives.mk)) ?_
        rintro x ⟨hs1, hxl⟩
        have hst : stripS x = if 1 < x.length ∧ x[x.length - 1]?.getD 0 = 47 then stripS (x.take (x.length - 1)) else x := by rw [stripS]
        repeat' (first | (first | refine Ya ?_ | refine Yb ?_ | refine Yc ?_ | refine Yd ?_ | refine Ye ?_ | refine Yf ?_ | refine Yg ?_ | refine Yh ?_ | refine Yi ?_ | refine Yj ?_ | refine Yk ?_ | refine Yl ?_ | refine Ym ?_ | refine Yn ?_ | refine Yo ?_ | refine Yp (h := ?_) | refine Yq ?_ | refine Yr ?_ | refine Ys ?_ | refine Zr hc (hk := ?_) | refine Zd hc (hk := ?_) | (refine Zc (ht := fun hb => ?_) (hf := fun hb => ?_) <;> (try simp at hb)) | fail) | (first | refine Zw hc (hf := by exact h4) (hk := ?_) | refine Zq hc (hf := by exact h4) (hk := ?_) | refine Zo hc (hk := ?_) | refine Zu hc (hk := ?_) | refine Ze hc (hk := ?_) | refine Zn hc (hk := ?_) | fail))
        · refine ⟨x.take (x.length - 1), ⟨?_, by simp; omega⟩, by simp; omega, run_back [0, 1] [] (by simp; exact Gives.mk) (by simp; exact Gives.mk) (by simp)⟩
          rw [← hs1, hst, if_pos ⟨by omega, byte47 hb.2⟩]
        · rw [← hs1, hst, if_neg (fun e => hb (by omega) (by rw [e.2]; rfl))]
          (refine Zl hc (hr := ?_))
          simp
  · rw [if_neg b3] at hr
    subst hr
    rw [decide_eq_false b3] at h3
    clear hs
    cases b4
    · repeat' (first | (first | refine Ya ?_ | refine Yb ?_ | refine Yc ?_ | refine Yd ?_ | refine Ye ?_ | refine Yf ?_ | refine Yg ?_ | refine Yh ?_ | refine Yi ?_ | refine Yj ?_ | refine Yk ?_ | refine Yl ?_ | refine Ym ?_ | refine Yn ?_ | refine Yo ?_ | refine Yp (h := ?_) | refine Yq ?_ | refine Yr ?_ | refine Ys ?_ | refine Zr hc (hk := ?_) | refine Zd hc (hk := ?_) | (refine Zc (ht := fun hb => ?_) (hf := fun hb => ?_) <;> (try simp at hb)) | fail) | (first | refine Zw hc (hf := by first | exact h3 | exact hB | exact h5) (hk := ?_) | refine Zq hc (hf := by first | exact h3 | exact hB | exact h5) (hk := ?_) | refine Zo hc (hk := ?_) | refine Zu hc (hk := ?_) | refine Ze hc (hk := ?_) | refine Zn hc (hk := ?_) | fail))
      · rw [if_neg (by simp), if_pos hb]
        generalize hxr : r.take k = x0
        refine ewp_loop (fun _ : Unit => ⟨[(0, .d (str x0)), (1, .d (rulSl L))], []⟩) (fun _ => True) (fun _ => 0) () trivial (run_keep [0, 1] [] (by simp; exact Gives.mk) (by simp; exact Gives.mk)) ?_
        rintro _ _
        repeat' (first | (first | refine Ya ?_ | refine Yb ?_ | refine Yc ?_ | refine Yd ?_ | refine Ye ?_ | refine Yf ?_ | refine Yg ?_ | refine Yh ?_ | refine Yi ?_ | refine Yj ?_ | refine Yk ?_ | refine Yl ?_ | refine Ym ?_ | refine Yn ?_ | refine Yo ?_ | refine Yp (h := ?_) | refine Yq ?_ | refine Yr ?_ | refine Ys ?_ | refine Zr hc (hk := ?_) | refine Zd hc (hk := ?_) | (refine Zc (ht := fun hb => ?_) (hf := fun hb => ?_) <;> (try simp at hb)) | fail) | (first | refine Zw hc (hf := by exact h4) (hk := ?_) | refine Zq hc (hf := by exact h4) (hk := ?_) | refine Zo hc (hk := ?_) | refine Zu hc (hk := ?_) | refine Ze hc (hk := ?_) | refine Zn hc (hk := ?_) | fail))
        all_goals try contradiction
        (refine Zl hc (hr := ?_))
        simp
      · rw [if_neg (by simp), if_neg (by simpa using hb)]
        generalize hxr : r = x0
        refine ewp_loop (fun _ : Unit => ⟨[(0, .d (str x0)), (1, .d (rulSl L))], []⟩) (fun _ => True) (fun _ => 0) () trivial (run_keep [0, 1] [] (by simp; exact Gives.mk) (by simp; exact Gives.mk)) ?_
        rintro _ _
        repeat' (first | (first | refine Ya ?_ | refine Yb ?_ | refine Yc ?_ | refine Yd ?_ | refine Ye ?_ | refine Yf ?_ | refine Yg ?_ | refine Yh ?_ | refine Yi ?_ | refine Yj ?_ | refine Yk ?_ | refine Yl ?_ | refine Ym ?_ | refine Yn ?_ | refine Yo ?_ | refine Yp (h := ?_) | refine Yq ?_ | refine Yr ?_ | refine Ys ?_ | refine Zr hc (hk := ?_) | refine Zd hc (hk := ?_) | (refine Zc (ht := fun hb => ?_) (hf := fun hb => ?_) <;> (try simp at hb)) | fail) | (first | refine Zw hc (hf := by exact h4) (hk := ?_) | refine Zq hc (hf := by exact h4) (hk := ?_) | refine Zo hc (hk := ?_) | refine Zu hc (hk := ?_) | refine Ze hc (hk := ?_) | refine Zn hc (hk := ?_) | fail))
        all_goals try contradiction
        (refine Zl hc (hr := ?_))
        simp
    · repeat' (first | (first | refine Ya ?_ | refine Yb ?_ | refine Yc ?_ | refine Yd ?_ | refine Ye ?_ | refine Yf ?_ | refine Yg ?_ | refine Yh ?_ | refine Yi ?_ | refine Yj ?_ | refine Yk ?_ | refine Yl ?_ | refine Ym ?_ | refine Yn ?_ | refine Yo ?_ | refine Yp (h := ?_) | refine Yq ?_ | refine Yr ?_ | refine Ys ?_ | refine Zr hc (hk := ?_) | refine Zd hc (hk := ?_) | (refine Zc (ht := fun hb => ?_) (hf := fun hb => ?_) <;> (try simp at hb)) | fail) | (first | refine Zw hc (hf := by first | exact h3 | exact hB | exact h5) (hk := ?_) | refine Zq hc (hf := by first | exact h3 | exact hB | exact h5) (hk := ?_) | refine Zo hc (hk := ?_) | refine Zu hc (hk := ?_) | refine Ze hc (hk := ?_) | refine Zn hc (hk := ?_) | fail))
      · rw [if_pos rfl, if_pos hb]
        have hx0 : (r.take k).length ≤ 100000 := by simp; omega
        generalize hxr : r.take k = x0 at hx0 ⊢
        refine ewp_loop (fun x : Bs => ⟨[(0, .d (str x)), (1, .d (rulSl L))], []⟩) (fun x => stripS x = stripS x0 ∧ x.length ≤ 100000) (fun x => x.length) x0 ⟨rfl, hx0⟩ (run_keep [0, 1] [] (by simp; exact Gives.mk) (by simp; exact Gives.mk)) ?_
        rintro x ⟨hs1, hxl⟩
        have hst : stripS x = if 1 < x.length ∧ x[x.length - 1]?.getD 0 = 47 then stripS (x.take (x.length - 1)) else x := by rw [stripS]
        repeat' (first | (first | refine Ya ?_ | refine Yb ?_ | refine Yc ?_ | refine Yd ?_ | refine Ye ?_ | refine Yf ?_ | refine Yg ?_ | refine Yh ?_ | refine Yi ?_ | refine Yj ?_ | refine Yk ?_ | refine Yl ?_ | refine Ym ?_ | refine Yn ?_ | refine Yo ?_ | refine Yp (h := ?_) | refine Yq ?_ | refine Yr ?_ | refine Ys ?_ | refine Zr hc (hk := ?_) | refine Zd hc (hk := ?_) | (refine Zc (ht := fun hb => ?_) (hf := fun hb => ?_) <;> (try simp at hb)) | fail) | (first | refine Zw hc (hf := by exact h4) (hk := ?_) | refine Zq hc (hf := by exact h4) (hk := ?_) | refine Zo hc (hk := ?_) | refine Zu hc (hk := ?_) | refine Ze hc (hk := ?_) | refine Zn hc (hk := ?_) | fail))
        · refine ⟨x.take (x.length - 1), ⟨?_, by simp; omega⟩, by simp; omega, run_back [0, 1] [] (by simp; exact Gives.mk) (by simp; exact Gives.mk) (by simp)⟩
          rw [← hs1, hst, if_pos ⟨by omega, byte47 hb.2⟩]
        · rw [← hs1, hst, if_neg (fun e => hb (by omega) (by rw [e.2]; rfl))]
          (refine Zl hc (hr := ?_))
          simp
      · rw [if_pos rfl, if_neg (by simpa using hb)]
        have hx0 : r.length ≤ 100000 := by omega
        generalize hxr : r = x0 at hx0 ⊢
        refine ewp_loop (fun x : Bs => ⟨[(0, .d (str x)), (1, .d (rulSl L))], []⟩) (fun x => stripS x = stripS x0 ∧ x.length ≤ 100000) (fun x => x.length) x0 ⟨rfl, hx0⟩ (run_keep [0, 1] [] (by simp; exact Gives.mk) (by simp; exact Gives.mk)) ?_
        rintro x ⟨hs1, hxl⟩
        have hst : stripS x = if 1 < x.length ∧ x[x.length - 1]?.getD 0 = 47 then stripS (x.take (x.length - 1)) else x := by rw [stripS]
        repeat' (first | (first | refine Ya ?_ | refine Yb ?_ | refine Yc ?_ | refine Yd ?_ | refine Ye ?_ | refine Yf ?_ | refine Yg ?_ | refine Yh ?_ | refine Yi ?_ | refine Yj ?_ | refine Yk ?_ | refine Yl ?_ | refine Ym ?_ | refine Yn ?_ | refine Yo ?_ | refine Yp (h := ?_) | refine Yq ?_ | refine Yr ?_ | refine Ys ?_ | refine Zr hc (hk := ?_) | refine Zd hc (hk := ?_) | (refine Zc (ht := fun hb => ?_) (hf := fun hb => ?_) <;> (try simp at hb)) | fail) | (first | refine Zw hc (hf := by exact h4) (hk := ?_) | refine Zq hc (hf := by exact h4) (hk := ?_) | refine Zo hc (hk := ?_) | refine Zu hc (hk := ?_) | refine Ze hc (hk := ?_) | refine Zn hc (hk := ?_) | fail))
        · refine ⟨x.take (x.length - 1), ⟨?_, by simp; omega⟩, by simp; omega, run_back [0, 1] [] (by simp; exact Gives.mk) (by simp; exact Gives.mk) (by simp)⟩
          rw [← hs1, hst, if_pos ⟨by omega, byte47 hb.2⟩]
        · rw [← hs1, hst, if_neg (fun e => hb (by omega) (by rw [e.2]; rfl))]
          (refine Zl hc (hr := ?_))
          simp
end Go.Proofs.YtglonkenckigiaaGreatDoor
