/-
  FRONTIER: Done (both sides). (WITH run_drawN.)
-/
import Derived.Test.YtnainpghpjelcaaGreatDoorTkB
import Derived.Test.YtnainpghpjelcaaGreatDoorFnE
import Derived.Test.YtnainpghpjelcaaGreatDoorFnT
import Derived.Test.YtnainpghpjelcaaGreatDoorFmB
import Derived.Test.YtnainpghpjelcaaGreatDoorPermR
import Derived.Test.YtnainpghpjelcaaGreatDoorFmD
set_option linter.unusedSimpArgs false
set_option linter.unusedVariables false
namespace Go.Proofs.YtnainpghpjelcaaGreatDoor
open Go.Lw Go.RowKit
set_option maxRecDepth 100000
set_option maxHeartbeats 8000000

theorem set_hcells (H : List Hst) (k : Nat) (x : Hst) : (fun i => ((H.map hstCells).set k (hstCells x))[i]?.getD [str [], int 0, tru false, intSl []]) = fun i => [str (hstAt (H.set k x) i).1, int (hstAt (H.set k x) i).2.1, tru (hstAt (H.set k x) i).2.2.1, intSl (hstAt (H.set k x) i).2.2.2] := by
  rw [← List.map_set]
  funext i
  rw [List.getElem?_map, row_h]
theorem frDone_ok (f : Frt) (s : Bs) (t k d : Int) (hf : FrOk f) : FnOk Tryz.prog 46 [frD f, str s, int t, int k, int d] (doneD f s t k d) := by
  refine fnOk Tryz.func46 rfl (by kernel_rfl) Tryz.ntmps46 _ rfl (by simp) fun C hc => ?_
  have hF := checkFr_ok f hf
  unfold doneD doneE
  by_cases he : frE f = 0
  rotate_left
  · rw [if_pos he, if_pos he]
    generalize frE f = e at hF he ⊢
    repeat' (first | (first | refine Ya ?_ | refine Yb ?_ | refine Yc ?_ | refine Yd ?_ | refine Ye ?_ | refine Yf ?_ | refine Yg ?_ | refine Yh ?_ | refine Yi ?_ | refine Yj ?_ | refine Yk ?_ | refine Yl ?_ | refine Ym ?_ | refine Yn ?_ | refine Yo ?_ | refine Yp (h := ?_) | refine Yq ?_ | refine Yr ?_ | refine Ys ?_ | refine Zr hc (hk := ?_) | refine Zd hc (hk := ?_) | (refine Zc (ht := fun hb => ?_) (hf := fun hb => ?_) <;> (try simp at hb)) | fail) | (first | refine Zw hc (hf := by exact hF) (hk := ?_) | refine Zq hc (hf := by exact hF) (hk := ?_) | refine Zo hc (hk := ?_) | refine Zu hc (hk := ?_) | refine Ze hc (hk := ?_) | fail))
    all_goals try contradiction
    (refine Zl hc (hr := ?_))
    simp [frNo]
  have hg := frE_good he
  have hB := find_ok f s hg.hosts hg.names
  have hlt := fun h => (there_is (f := f) (s := s) h).1
  have h1 := frMoment_ok t
  have h2 := frWithin_ok k 0 1000000
  have h3 := frWithin_ok d 0 1000000
  have hOwn := frOwn_ok f hg.items hg.hosts hg.many
  unfold owV at hOwn
  rw [he] at hF
  rw [if_neg (show ¬ frE f ≠ 0 from fun e => e he)]
  have hhl := hg.hosts
  have hil := hg.items
  change FnOk _ _ _ (.tup [int (hLb f s), tru (hThere f s)]) at hB
  unfold doneF
  clear hf hg he
  generalize hThere f s = th at *
  generalize hLb f s = j at *
  cases th with
  | false =>
    simp only [if_true, ne_eq]
    repeat' (first | (first | refine Ya ?_ | refine Yb ?_ | refine Yc ?_ | refine Yd ?_ | refine Ye ?_ | refine Yf ?_ | refine Yg ?_ | refine Yh ?_ | refine Yi ?_ | refine Yj ?_ | refine Yk ?_ | refine Yl ?_ | refine Ym ?_ | refine Yn ?_ | refine Yo ?_ | refine Yp (h := ?_) | refine Yq ?_ | refine Yr ?_ | refine Ys ?_ | refine Zr hc (hk := ?_) | refine Zd hc (hk := ?_) | (refine Zc (ht := fun hb => ?_) (hf := fun hb => ?_) <;> (try simp at hb)) | fail) | (first | refine Zw hc (hf := by first | exact hF | exact hB) (hk := ?_) | refine Zq hc (hf := by first | exact hF | exact hB) (hk := ?_) | refine Zo hc (hk := ?_) | refine Zu hc (hk := ?_) | refine Ze hc (hk := ?_) | fail))
    all_goals try contradiction
    (refine Zl hc (hr := ?_))
    simp [frNo]
  | true =>
    have hj := hlt rfl
    simp only [Bool.true_eq_false, if_false]
    obtain ⟨I, H, bu, wi⟩ := f
    simp only at *
    cases hbz : (hstAt H j).2.2.1 with
    | false =>
      simp only [if_true, ne_eq]
      repeat' (first | (first | refine Ya ?_ | refine Yb ?_ | refine Yc ?_ | refine Yd ?_ | refine Ye ?_ | refine Yf ?_ | refine Yg ?_ | refine Yh ?_ | refine Yi ?_ | refine Yj ?_ | refine Yk ?_ | refine Yl ?_ | refine Ym ?_ | refine Yn ?_ | refine Yo ?_ | refine Yp (h := ?_) | refine Yq ?_ | refine Yr ?_ | refine Ys ?_ | refine Zr hc (hk := ?_) | refine Zd hc (hk := ?_) | (refine Zc (ht := fun hb => ?_) (hf := fun hb => ?_) <;> (try simp at hb)) | fail) | (first | refine Zw hc (hf := by first | exact hF | exact hB) (hk := ?_) | refine Zq hc (hf := by first | exact hF | exact hB) (hk := ?_) | refine Zo hc (hk := ?_) | refine Zu hc (hk := ?_) | refine Ze hc (hk := ?_) | fail))
      all_goals try contradiction
      all_goals try (exfalso; simp_all; done)
      (refine Zl hc (hr := ?_))
      simp [frNo]
    | true =>
      simp only [Bool.true_eq_false, if_false]
      have ht0 : decide (okM t) = true → okM t := fun h => by simpa using h
      have hk0 : decide (0 ≤ k ∧ k ≤ 1000000) = true → 0 ≤ k ∧ k ≤ 1000000 := fun h => by simpa using h
      have hd0 : decide (0 ≤ d ∧ d ≤ 1000000) = true → 0 ≤ d ∧ d ≤ 1000000 := fun h => by simpa using h
      generalize decide (okM t) = w1 at *
      generalize decide (0 ≤ k ∧ k ≤ 1000000) = w2 at *
      generalize decide (0 ≤ d ∧ d ≤ 1000000) = w3 at *
      by_cases hw : w1 = false ∨ w2 = false ∨ w3 = false
      · rw [if_pos hw, if_pos (by decide)]
        repeat' (first | (first | refine Ya ?_ | refine Yb ?_ | refine Yc ?_ | refine Yd ?_ | refine Ye ?_ | refine Yf ?_ | refine Yg ?_ | refine Yh ?_ | refine Yi ?_ | refine Yj ?_ | refine Yk ?_ | refine Yl ?_ | refine Ym ?_ | refine Yn ?_ | refine Yo ?_ | refine Yp (h := ?_) | refine Yq ?_ | refine Yr ?_ | refine Ys ?_ | refine Zr hc (hk := ?_) | refine Zd hc (hk := ?_) | (refine Zc (ht := fun hb => ?_) (hf := fun hb => ?_) <;> (try simp at hb)) | fail) | (first | refine Zw hc (hf := by first | exact hF | exact hB | exact h1 | exact h2 | exact h3) (hk := ?_) | refine Zq hc (hf := by first | exact hF | exact hB | exact h1 | exact h2 | exact h3) (hk := ?_) | refine Zo hc (hk := ?_) | refine Zu hc (hk := ?_) | refine Ze hc (hk := ?_) | fail))
        all_goals try contradiction
        all_goals try (exfalso; simp_all; done)
        (refine Zl hc (hr := ?_))
        simp [frNo]
      · rw [if_neg hw, if_neg (by decide)]
        have q1 := ht0 (by cases w1 <;> simp_all)
        have q2 := hk0 (by cases w2 <;> simp_all)
        have q3 := hd0 (by cases w3 <;> simp_all)
        unfold okM at q1
        clear ht0 hk0 hd0 hlt
        repeat' (first | (first | refine Ya ?_ | refine Yb ?_ | refine Yc ?_ | refine Yd ?_ | refine Ye ?_ | refine Yf ?_ | refine Yg ?_ | refine Yh ?_ | refine Yi ?_ | refine Yj ?_ | refine Yk ?_ | refine Yl ?_ | refine Ym ?_ | refine Yn ?_ | refine Yo ?_ | refine Yp (h := ?_) | refine Yq ?_ | refine Yr ?_ | refine Ys ?_ | refine Zr hc (hk := ?_) | refine Zd hc (hk := ?_) | (refine Zc (ht := fun hb => ?_) (hf := fun hb => ?_) <;> (try simp at hb)) | fail) | (first | refine Zw hc (hf := by first | exact hF | exact hB | exact h1 | exact h2 | exact h3) (hk := ?_) | refine Zq hc (hf := by first | exact hF | exact hB | exact h1 | exact h2 | exact h3) (hk := ?_) | refine Zo hc (hk := ?_) | refine Zu hc (hk := ?_) | refine Ze hc (hk := ?_) | fail) | ((first | refine run_callM ([(40001, 40001), (40002, 40002)]) (hOwn) hc (by simp; exact Gives.mk) (by simp; exact Gives.mk) (by simp; exact Gives.mk) (by simp; exact Gives.mk) (by simp; exact Gives.mk) rfl (by simp; exact Gives.mk) (by simp; exact Gives.mk) rfl (by simp) (by simp) (by simp; exact Gives.mk) (by simp; exact Gives.mk) ?_ | fail)))
        all_goals try contradiction
        all_goals try (exfalso; simp_all; done)
        refine ewp_le (run_keep [2, 3, 4, 5, 10, 13] [5, 10, 40001, 40002] (by simp; exact Gives.mk) (by simp; exact Gives.mk)) ?_
        (apply Xd 18 hc; (focus (refine Xp 0 hc (hk := ?_); refine Xm 2 hc (hk := ?_); refine Xp 3 hc (hk := ?_); refine Xm 5 hc (hk := ?_); refine Xm 6 hc (hk := ?_); refine Xm 7 hc (hk := ?_); refine Xm 8 hc (hk := ?_); refine Xp 9 hc (hk := ?_); refine Xp 10 hc (hk := ?_); refine Xp 11 hc (hk := ?_); refine run_anyR 1 [1, 12, 13, 14, 15, 16, 17] hc rfl (by kernel_rfl) rfl (by simp; exact Gives.mk) (by first | exact True.intro | omega | (simp; done) | (simp; omega) | (simp at *; omega)) (by simp) (by simp; exact Gives.mk) ?_; refine Xa [4, 12] (hx := ?_); refine ⟨?_, ?_⟩; (focus (refine Xw hc (hk := ?q120); refine Xa [12] (hx := ?nq120); (focus (refine Xw hc (hk := ?q121); refine Xp 13 hc (hk := ?nq121); refine Xa [14] (hx := ?_); (focus (refine Xw hc (hk := ?q122); refine Xa [15] (hx := ?nq122); (focus (refine Xw hc (hk := ?q123); refine Xp 16 hc (hk := ?nq123); refine Xa [17] (hx := ?_); (focus (refine Xw hc (hk := ?q124); refine Xz (hk := ?nq124); exact Xk [5, 10] [5, 10, 40001, 40002])))))))))); (focus (refine Xw hc (hk := ?q125); refine Xp 13 hc (hk := ?nq125); refine Xa [4, 14] (hx := ?_); refine ⟨?_, ?_⟩; (focus (refine Xw hc (hk := ?q126); refine Xa [14] (hx := ?nq126); (focus (refine Xw hc (hk := ?_); exact Xq ?q122)))); (focus (refine Xw hc (hk := ?q127); refine run_anyR 4 [4, 15, 16, 17] hc rfl (by kernel_rfl) rfl (by simp; exact Gives.mk) (by first | exact True.intro | omega | (simp; done) | (simp; omega) | (simp at *; omega)) (by simp) (by simp; exact Gives.mk) ?nq127; refine Xa [15] (hx := ?_); (focus (refine Xw hc (hk := ?_); exact Xq ?q123)))))))))
        repeat' (first | (first | refine Ya ?_ | refine Yb ?_ | refine Yc ?_ | refine Yd ?_ | refine Ye ?_ | refine Yf ?_ | refine Yg ?_ | refine Yh ?_ | refine Yi ?_ | refine Yj ?_ | refine Yk ?_ | refine Yl ?_ | refine Ym ?_ | refine Yn ?_ | refine Yo ?_ | refine Yp (h := ?_) | refine Yq ?_ | refine Yr ?_ | refine Ys ?_ | refine Zr hc (hk := ?_) | refine Zd hc (hk := ?_) | (refine Zc (ht := fun hb => ?_) (hf := fun hb => ?_) <;> (try simp at hb)) | fail) | (first | refine Zo hc (hk := ?_) | refine Zu hc (hk := ?_) | refine Ze hc (hk := ?_) | fail))
        all_goals try contradiction
        have e := set_hcells H j ((hstAt H j).1, t + max d (4 * k), false, (hstAt H j).2.2.2)
        (refine Zl hc (hr := ?_))
        have e0 : ∀ c, ((H.map hstCells).set j c)[j]? = some c := fun c => List.getElem?_set_self (by simpa using hj)
        simp [max2_eq, frD, e0]
        exact e
end Go.Proofs.YtnainpghpjelcaaGreatDoor
