/-
  FRONTIER: the text of a frontier: the program's walk. (WITH run_drawN.)
-/
import Derived.Test.YtnainpghpjelcaaGreatDoorFtB
import Derived.Test.YtnainpghpjelcaaGreatDoorFnB
import Derived.Test.YtnainpghpjelcaaGreatDoorFnY
import Derived.Test.YtnainpghpjelcaaGreatDoorFnV
set_option linter.unusedSimpArgs false
set_option linter.unusedVariables false
namespace Go.Proofs.YtnainpghpjelcaaGreatDoor
open Go.Lw Go.RowKit
set_option maxRecDepth 100000
set_option maxHeartbeats 4000000

theorem bldLen_ok (u : Bool) (m : Bs) : FnMem Tryz.prog 82 [.bp 100000 0] (bld u 100000 50001 m) (.d (int m.length)) (bld u 100000 50001 m) := by
  refine fnMem Tryz.func82 rfl (by kernel_rfl) Tryz.ntmps82 _ rfl (by simp) fun C hc => ?_
  repeat' (first | (first | refine Ya ?_ | refine Yb ?_ | refine Yc ?_ | refine Yd ?_ | refine Ye ?_ | refine Yf ?_ | refine Yg ?_ | refine Yh ?_ | refine Yi ?_ | refine Yj ?_ | refine Yk ?_ | refine Yl ?_ | refine Ym ?_ | refine Yn ?_ | refine Yo ?_ | refine Yp (h := ?_) | refine Yq ?_ | refine Yr ?_ | refine Ys ?_ | refine Zr hc (hk := ?_) | refine Zd hc (hk := ?_) | (refine Zc (ht := fun hb => ?_) (hf := fun hb => ?_) <;> (try simp at hb)) | fail) | (first | refine Zo hc (hk := ?_) | refine Zu hc (hk := ?_) | refine Ze hc (hk := ?_) | refine Zn hc (hk := ?_) | fail))
  (refine run_leaveM [100000, 50001] hc (le_end rfl) (by simp; exact Gives.mk) (by simp; exact Gives.mk) (by first | (simp; done) | (simp; omega)) ?_)
  simp
theorem frText_ok (f : Frt) (hf : FrOk f) : FnOk Tryz.prog 31 [frD f] (txtD f) := by
  refine fnOk Tryz.func31 rfl (by kernel_rfl) Tryz.ntmps31 _ rfl (by simp) fun C hc => ?_
  have hF := checkFr_ok f hf
  have hgd := fun h => frE_good (f := f) h
  unfold txtD
  generalize frE f = e at hF hgd ⊢
  by_cases he : e = 0
  · subst he
    rw [if_neg (fun h => h rfl)]
    have hg := frTx_of (hgd rfl)
    have lI := tI_len hg
    have lH := tH_len hg
    have hB := itoaI_ok f.budget hg.budget.1 hg.budget.2
    have hW := itoaI_ok f.window hg.window.1 hg.window.2
    have lB := decI_len hg.budget.2
    have lW := decI_len hg.window.2
    repeat' (first | (first | refine Ya ?_ | refine Yb ?_ | refine Yc ?_ | refine Yd ?_ | refine Ye ?_ | refine Yf ?_ | refine Yg ?_ | refine Yh ?_ | refine Yi ?_ | refine Yj ?_ | refine Yk ?_ | refine Yl ?_ | refine Ym ?_ | refine Yn ?_ | refine Yo ?_ | refine Yp (h := ?_) | refine Yq ?_ | refine Yr ?_ | refine Ys ?_ | refine Zr hc (hk := ?_) | refine Zd hc (hk := ?_) | (refine Zc (ht := fun hb => ?_) (hf := fun hb => ?_) <;> (try simp at hb)) | fail) | (first | refine Zw hc (hf := by exact hF) (hk := ?_) | refine Zq hc (hf := by exact hF) (hk := ?_) | refine Zo hc (hk := ?_) | refine Zu hc (hk := ?_) | refine Ze hc (hk := ?_) | fail))
    all_goals try contradiction
    refine ewp_le (run_keepB [(5, some 1, 40000, 5, [.lit (.int .u8 0)])] [1, 5, 6] [1, 5, 40000] (by simp; exact Gives.mk) (by simp; exact Gives.mk) (by simp; exact Gives.mk)) ?_
    rw [txt_eq]
    have eF := lnF_eq f
    have lF : (lnF f).length ≤ 40 := by rw [eF]; simp; omega
    obtain ⟨-, -, q3, q4, q5, q6⟩ := hg
    repeat' (first | (first | refine Ya ?_ | refine Yb ?_ | refine Yc ?_ | refine Yd ?_ | refine Ye ?_ | refine Yf ?_ | refine Yg ?_ | refine Yh ?_ | refine Yi ?_ | refine Yj ?_ | refine Yk ?_ | refine Yl ?_ | refine Ym ?_ | refine Yn ?_ | refine Yo ?_ | refine Yp (h := ?_) | refine Yq ?_ | refine Yr ?_ | refine Ys ?_ | refine Zr hc (hk := ?_) | refine Zd hc (hk := ?_) | (refine Zc (ht := fun hb => ?_) (hf := fun hb => ?_) <;> (try simp at hb)) | fail) | (refine run_drawT 12 hc (by kernel_rfl) (by kernel_rfl) ?_; try simp only [List.take_succ_cons, List.take_zero, List.drop_succ_cons, List.drop_zero]) | (first | refine Zw hc (hf := by first | exact hB | exact hW) (hk := ?_) | refine Zq hc (hf := by first | exact hB | exact hW) (hk := ?_) | refine Zo hc (hk := ?_) | refine Zu hc (hk := ?_) | refine Ze hc (hk := ?_) | refine Zn hc (hk := ?_) | fail) | ((first | refine run_callMQ ([(100000, 5), (50001, 40000)]) (writeString_ok false [] _) hc (by simp; exact Gives.mk) (by simp; exact Gives.mk) (by simp; exact Gives.mk) (by simp; exact Gives.mk) (by simp; exact Gives.mk) rfl (by simp; exact Gives.mk) (by simp; exact Gives.mk) rfl (by simp) (by simp) (by simp; exact Gives.mk) (by simp; exact Gives.mk) (by first | exact True.intro | omega | (simp; done) | (simp; omega) | (simp at *; omega)) ?_ | fail)))
    refine ewp_loop (fun j : Nat => ⟨[(1, .bp 1 0), (5, .bp 5 0), (6, .d (.lit (.func (.func 80) #[] #[]))), (33, .d (wntSl f.items)), (34, .d (int f.items.length)), (35, .d (int j))], (1, .box 25 [.d (wntSl f.items), .d (hstSl f.hosts), .d (int f.budget), .d (int f.window)]) :: bld true 5 40000 (lnF f ++ [10] ++ tI f.items j)⟩) (fun j => j ≤ f.items.length) (fun j => f.items.length - j) 0 (by simp) (run_back [1, 5, 6, 33, 34, 35] [1, 5, 40000] (by simp; exact Gives.mk) (by simp; exact Gives.mk) (by simp [eF, tI, addrV])) ?_
    clear hF hB hW eF
    intro j hj
    have lj := lI j
    by_cases hlt : j < f.items.length
    · obtain ⟨w1, w2⟩ := q5 j hlt
      have hR := itoaI_ok (wntAt f.items j).2.1 w1.rank.1 w1.rank.2
      have hD := itoaI_ok (wntAt f.items j).2.2 w1.due.1 w1.due.2
      have l1 := decI_len w1.rank.2
      have l2 := decI_len w1.due.2
      have hnx := tI_next f.items hlt
      repeat' (first | (first | refine Ya ?_ | refine Yb ?_ | refine Yc ?_ | refine Yd ?_ | refine Ye ?_ | refine Yf ?_ | refine Yg ?_ | refine Yh ?_ | refine Yi ?_ | refine Yj ?_ | refine Yk ?_ | refine Yl ?_ | refine Ym ?_ | refine Yn ?_ | refine Yo ?_ | refine Yp (h := ?_) | refine Yq ?_ | refine Yr ?_ | refine Ys ?_ | refine Zr hc (hk := ?_) | refine Zd hc (hk := ?_) | (refine Zc (ht := fun hb => ?_) (hf := fun hb => ?_) <;> (try simp at hb)) | fail) | (refine run_drawT 16 hc (by kernel_rfl) (by kernel_rfl) ?_; try simp only [List.take_succ_cons, List.take_zero, List.drop_succ_cons, List.drop_zero]) | (first | refine Zw hc (hf := by first | exact hR | exact hD) (hk := ?_) | refine Zq hc (hf := by first | exact hR | exact hD) (hk := ?_) | refine Zo hc (hk := ?_) | refine Zu hc (hk := ?_) | refine Ze hc (hk := ?_) | refine Zn hc (hk := ?_) | fail) | ((first | refine run_callMQ ([(100000, 5), (50001, 40000)]) (writeString_ok true (lnF f ++ [10] ++ tI f.items j) _) hc (by simp; exact Gives.mk) (by simp; exact Gives.mk) (by simp; exact Gives.mk) (by simp; exact Gives.mk) (by simp; exact Gives.mk) rfl (by simp; exact Gives.mk) (by simp; exact Gives.mk) rfl (by simp) (by simp) (by simp; exact Gives.mk) (by simp; exact Gives.mk) (by first | exact True.intro | omega | (simp; done) | (simp; omega) | (simp at *; omega)) ?_ | fail)))
      all_goals try (exfalso; omega)
      exact ⟨j + 1, by omega, by omega, run_back [1, 5, 6, 33, 34, 35] [1, 5, 40000] (by simp; exact Gives.mk) (by simp; exact Gives.mk) (by simp [hnx])⟩
    · obtain rfl : j = f.items.length := by omega
      generalize hA : lnF f ++ [10] ++ tI f.items f.items.length = A
      have lA : A.length ≤ 4080041 := by rw [← hA]; simp; omega
      clear hA lj
      repeat' (first | (first | refine Ya ?_ | refine Yb ?_ | refine Yc ?_ | refine Yd ?_ | refine Ye ?_ | refine Yf ?_ | refine Yg ?_ | refine Yh ?_ | refine Yi ?_ | refine Yj ?_ | refine Yk ?_ | refine Yl ?_ | refine Ym ?_ | refine Yn ?_ | refine Yo ?_ | refine Yp (h := ?_) | refine Yq ?_ | refine Yr ?_ | refine Ys ?_ | refine Zr hc (hk := ?_) | refine Zd hc (hk := ?_) | (refine Zc (ht := fun hb => ?_) (hf := fun hb => ?_) <;> (try simp at hb)) | fail) | (first | refine Zo hc (hk := ?_) | refine Zu hc (hk := ?_) | refine Ze hc (hk := ?_) | refine Zn hc (hk := ?_) | fail))
      all_goals try (exfalso; omega)
      refine ewp_loop (fun j : Nat => ⟨[(5, .bp 5 0), (6, .d (.lit (.func (.func 80) #[] #[]))), (58, .d (hstSl f.hosts)), (59, .d (int f.hosts.length)), (60, .d (int j))], bld true 5 40000 (A ++ tH f.hosts j)⟩) (fun j => j ≤ f.hosts.length) (fun j => f.hosts.length - j) 0 (by simp) (run_back [5, 6, 58, 59, 60] [5, 40000] (by simp; exact Gives.mk) (by simp; exact Gives.mk) (by simp [tH])) ?_
      clear hj hlt
      intro j hj
      have lj := lH j
      by_cases hlt : j < f.hosts.length
      · obtain ⟨h1, h2, h3⟩ := q6 j hlt
        have hR := itoaI_ok (hstAt f.hosts j).2.1 h1.free.1 h1.free.2
        have l1 := decI_len h1.free.2
        have hnx := tH_next f.hosts hlt
        have lb := bzy_len (hstAt f.hosts j).2.2.1
        generalize hbz : (hstAt f.hosts j).2.2.1 = bz at hnx lb
        repeat' (first | (first | refine Ya ?_ | refine Yb ?_ | refine Yc ?_ | refine Yd ?_ | refine Ye ?_ | refine Yf ?_ | refine Yg ?_ | refine Yh ?_ | refine Yi ?_ | refine Yj ?_ | refine Yk ?_ | refine Yl ?_ | refine Ym ?_ | refine Yn ?_ | refine Yo ?_ | refine Yp (h := ?_) | refine Yq ?_ | refine Yr ?_ | refine Ys ?_ | refine Zr hc (hk := ?_) | refine Zd hc (hk := ?_) | (refine Zc (ht := fun hb => ?_) (hf := fun hb => ?_) <;> (try simp at hb)) | fail) | (first | refine Zo hc (hk := ?_) | refine Zu hc (hk := ?_) | refine Ze hc (hk := ?_) | fail))
        all_goals try (exfalso; omega)
        · have hb2 : bz = true := by rw [← hbz]; exact hb
          repeat' (first | (first | refine Ya ?_ | refine Yb ?_ | refine Yc ?_ | refine Yd ?_ | refine Ye ?_ | refine Yf ?_ | refine Yg ?_ | refine Yh ?_ | refine Yi ?_ | refine Yj ?_ | refine Yk ?_ | refine Yl ?_ | refine Ym ?_ | refine Yn ?_ | refine Yo ?_ | refine Yp (h := ?_) | refine Yq ?_ | refine Yr ?_ | refine Ys ?_ | refine Zr hc (hk := ?_) | refine Zd hc (hk := ?_) | (refine Zc (ht := fun hb => ?_) (hf := fun hb => ?_) <;> (try simp at hb)) | fail) | (refine run_drawT 12 hc (by kernel_rfl) (by kernel_rfl) ?_; try simp only [List.take_succ_cons, List.take_zero, List.drop_succ_cons, List.drop_zero]) | (first | refine Zw hc (hf := by exact hR) (hk := ?_) | refine Zq hc (hf := by exact hR) (hk := ?_) | refine Zo hc (hk := ?_) | refine Zu hc (hk := ?_) | refine Ze hc (hk := ?_) | refine Zn hc (hk := ?_) | fail) | ((first | refine run_callMQ ([(100000, 5), (50001, 40000)]) (writeString_ok true (A ++ tH f.hosts j) _) hc (by simp; exact Gives.mk) (by simp; exact Gives.mk) (by simp; exact Gives.mk) (by simp; exact Gives.mk) (by simp; exact Gives.mk) rfl (by simp; exact Gives.mk) (by simp; exact Gives.mk) rfl (by simp) (by simp) (by simp; exact Gives.mk) (by simp; exact Gives.mk) (by first | exact True.intro | omega | (simp; done) | (simp; omega) | (simp at *; omega)) ?_ | fail)))
          refine ewp_loop (fun i : Nat => ⟨[(5, .bp 5 0), (6, .d (.lit (.func (.func 80) #[] #[]))), (58, .d (hstSl f.hosts)), (59, .d (int f.hosts.length)), (60, .d (int j)), (80, .d (intSl (hstAt f.hosts j).2.2.2)), (81, .d (int (hstAt f.hosts j).2.2.2.length)), (82, .d (int i))], bld true 5 40000 (A ++ tH f.hosts j ++ ([104, 111, 115, 116, 32] ++ (hstAt f.hosts j).1 ++ [32] ++ decI (hstAt f.hosts j).2.1 ++ [32] ++ bzy bz) ++ tS (hstAt f.hosts j).2.2.2 i)⟩) (fun i => i ≤ (hstAt f.hosts j).2.2.2.length) (fun i => (hstAt f.hosts j).2.2.2.length - i) 0 (by simp) (run_back [5, 6, 58, 59, 60, 80, 81, 82] [5, 40000] (by simp; exact Gives.mk) (by simp; exact Gives.mk) (by simp [tS, bzy, hb2])) ?_
          generalize hM : A ++ tH f.hosts j ++ ([104, 111, 115, 116, 32] ++ (hstAt f.hosts j).1 ++ [32] ++ decI (hstAt f.hosts j).2.1 ++ [32] ++ bzy bz) = M
          have lM : M.length ≤ A.length + (tH f.hosts j).length + 2030 := by rw [← hM]; simp [bzy_len]; omega
          intro i hi
          have li := tS_len _ h1.starts i
          by_cases hl2 : i < (hstAt f.hosts j).2.2.2.length
          · have hn2 := tS_next _ hl2
            have hst := h1.starts _ (List.getElem_mem hl2)
            have hge : (hstAt f.hosts j).2.2.2[i]?.getD 0 = (hstAt f.hosts j).2.2.2[i] := by rw [List.getElem?_eq_getElem hl2]; rfl
            rw [← hge] at hst
            have hN := itoaI_ok ((hstAt f.hosts j).2.2.2[i]?.getD 0) hst.1 hst.2
            have l5 := decI_len hst.2
            clear hge
            repeat' (first | (first | refine Ya ?_ | refine Yb ?_ | refine Yc ?_ | refine Yd ?_ | refine Ye ?_ | refine Yf ?_ | refine Yg ?_ | refine Yh ?_ | refine Yi ?_ | refine Yj ?_ | refine Yk ?_ | refine Yl ?_ | refine Ym ?_ | refine Yn ?_ | refine Yo ?_ | refine Yp (h := ?_) | refine Yq ?_ | refine Yr ?_ | refine Ys ?_ | refine Zr hc (hk := ?_) | refine Zd hc (hk := ?_) | (refine Zc (ht := fun hb => ?_) (hf := fun hb => ?_) <;> (try simp at hb)) | fail) | (first | refine Zw hc (hf := by exact hN) (hk := ?_) | refine Zq hc (hf := by exact hN) (hk := ?_) | refine Zo hc (hk := ?_) | refine Zu hc (hk := ?_) | refine Ze hc (hk := ?_) | refine Zn hc (hk := ?_) | fail) | ((first | refine run_callMQ ([(100000, 5), (50001, 40000)]) (writeString_ok true (M ++ tS (hstAt f.hosts j).2.2.2 i) _) hc (by simp; exact Gives.mk) (by simp; exact Gives.mk) (by simp; exact Gives.mk) (by simp; exact Gives.mk) (by simp; exact Gives.mk) rfl (by simp; exact Gives.mk) (by simp; exact Gives.mk) rfl (by simp) (by simp) (by simp; exact Gives.mk) (by simp; exact Gives.mk) (by first | exact True.intro | omega | (simp; done) | (simp; omega) | (simp at *; omega)) ?_ | fail)))
            all_goals try (exfalso; omega)
            exact ⟨i + 1, by omega, by omega, run_back [5, 6, 58, 59, 60, 80, 81, 82] [5, 40000] (by simp; exact Gives.mk) (by simp; exact Gives.mk) (by simp [hn2])⟩
          · obtain rfl : i = (hstAt f.hosts j).2.2.2.length := by omega
            repeat' (first | (first | refine Ya ?_ | refine Yb ?_ | refine Yc ?_ | refine Yd ?_ | refine Ye ?_ | refine Yf ?_ | refine Yg ?_ | refine Yh ?_ | refine Yi ?_ | refine Yj ?_ | refine Yk ?_ | refine Yl ?_ | refine Ym ?_ | refine Yn ?_ | refine Yo ?_ | refine Yp (h := ?_) | refine Yq ?_ | refine Yr ?_ | refine Ys ?_ | refine Zr hc (hk := ?_) | refine Zd hc (hk := ?_) | (refine Zc (ht := fun hb => ?_) (hf := fun hb => ?_) <;> (try simp at hb)) | fail) | (first | refine Zo hc (hk := ?_) | refine Zu hc (hk := ?_) | refine Ze hc (hk := ?_) | refine Zn hc (hk := ?_) | fail) | ((first | refine run_callMQ ([(100000, 5), (50001, 40000)]) (writeString_ok true (M ++ tS (hstAt f.hosts j).2.2.2 (hstAt f.hosts j).2.2.2.length) _) hc (by simp; exact Gives.mk) (by simp; exact Gives.mk) (by simp; exact Gives.mk) (by simp; exact Gives.mk) (by simp; exact Gives.mk) rfl (by simp; exact Gives.mk) (by simp; exact Gives.mk) rfl (by simp) (by simp) (by simp; exact Gives.mk) (by simp; exact Gives.mk) (by first | exact True.intro | omega | (simp; done) | (simp; omega) | (simp at *; omega)) ?_ | fail)))
            all_goals try (exfalso; omega)
            exact ⟨j + 1, by omega, by omega, run_back [5, 6, 58, 59, 60] [5, 40000] (by simp; exact Gives.mk) (by simp; exact Gives.mk) (by simp [hnx, ← hM]; omega)⟩
        · have hb2 : bz = false := by rw [← hbz]; exact hb
          repeat' (first | (first | refine Ya ?_ | refine Yb ?_ | refine Yc ?_ | refine Yd ?_ | refine Ye ?_ | refine Yf ?_ | refine Yg ?_ | refine Yh ?_ | refine Yi ?_ | refine Yj ?_ | refine Yk ?_ | refine Yl ?_ | refine Ym ?_ | refine Yn ?_ | refine Yo ?_ | refine Yp (h := ?_) | refine Yq ?_ | refine Yr ?_ | refine Ys ?_ | refine Zr hc (hk := ?_) | refine Zd hc (hk := ?_) | (refine Zc (ht := fun hb => ?_) (hf := fun hb => ?_) <;> (try simp at hb)) | fail) | (refine run_drawT 12 hc (by kernel_rfl) (by kernel_rfl) ?_; try simp only [List.take_succ_cons, List.take_zero, List.drop_succ_cons, List.drop_zero]) | (first | refine Zw hc (hf := by exact hR) (hk := ?_) | refine Zq hc (hf := by exact hR) (hk := ?_) | refine Zo hc (hk := ?_) | refine Zu hc (hk := ?_) | refine Ze hc (hk := ?_) | refine Zn hc (hk := ?_) | fail) | ((first | refine run_callMQ ([(100000, 5), (50001, 40000)]) (writeString_ok true (A ++ tH f.hosts j) _) hc (by simp; exact Gives.mk) (by simp; exact Gives.mk) (by simp; exact Gives.mk) (by simp; exact Gives.mk) (by simp; exact Gives.mk) rfl (by simp; exact Gives.mk) (by simp; exact Gives.mk) rfl (by simp) (by simp) (by simp; exact Gives.mk) (by simp; exact Gives.mk) (by first | exact True.intro | omega | (simp; done) | (simp; omega) | (simp at *; omega)) ?_ | fail)))
          refine ewp_loop (fun i : Nat => ⟨[(5, .bp 5 0), (6, .d (.lit (.func (.func 80) #[] #[]))), (58, .d (hstSl f.hosts)), (59, .d (int f.hosts.length)), (60, .d (int j)), (80, .d (intSl (hstAt f.hosts j).2.2.2)), (81, .d (int (hstAt f.hosts j).2.2.2.length)), (82, .d (int i))], bld true 5 40000 (A ++ tH f.hosts j ++ ([104, 111, 115, 116, 32] ++ (hstAt f.hosts j).1 ++ [32] ++ decI (hstAt f.hosts j).2.1 ++ [32] ++ bzy bz) ++ tS (hstAt f.hosts j).2.2.2 i)⟩) (fun i => i ≤ (hstAt f.hosts j).2.2.2.length) (fun i => (hstAt f.hosts j).2.2.2.length - i) 0 (by simp) (run_back [5, 6, 58, 59, 60, 80, 81, 82] [5, 40000] (by simp; exact Gives.mk) (by simp; exact Gives.mk) (by simp [tS, bzy, hb2])) ?_
          generalize hM : A ++ tH f.hosts j ++ ([104, 111, 115, 116, 32] ++ (hstAt f.hosts j).1 ++ [32] ++ decI (hstAt f.hosts j).2.1 ++ [32] ++ bzy bz) = M
          have lM : M.length ≤ A.length + (tH f.hosts j).length + 2030 := by rw [← hM]; simp [bzy_len]; omega
          intro i hi
          have li := tS_len _ h1.starts i
          by_cases hl2 : i < (hstAt f.hosts j).2.2.2.length
          · have hn2 := tS_next _ hl2
            have hst := h1.starts _ (List.getElem_mem hl2)
            have hge : (hstAt f.hosts j).2.2.2[i]?.getD 0 = (hstAt f.hosts j).2.2.2[i] := by rw [List.getElem?_eq_getElem hl2]; rfl
            rw [← hge] at hst
            have hN := itoaI_ok ((hstAt f.hosts j).2.2.2[i]?.getD 0) hst.1 hst.2
            have l5 := decI_len hst.2
            clear hge
            repeat' (first | (first | refine Ya ?_ | refine Yb ?_ | refine Yc ?_ | refine Yd ?_ | refine Ye ?_ | refine Yf ?_ | refine Yg ?_ | refine Yh ?_ | refine Yi ?_ | refine Yj ?_ | refine Yk ?_ | refine Yl ?_ | refine Ym ?_ | refine Yn ?_ | refine Yo ?_ | refine Yp (h := ?_) | refine Yq ?_ | refine Yr ?_ | refine Ys ?_ | refine Zr hc (hk := ?_) | refine Zd hc (hk := ?_) | (refine Zc (ht := fun hb => ?_) (hf := fun hb => ?_) <;> (try simp at hb)) | fail) | (first | refine Zw hc (hf := by exact hN) (hk := ?_) | refine Zq hc (hf := by exact hN) (hk := ?_) | refine Zo hc (hk := ?_) | refine Zu hc (hk := ?_) | refine Ze hc (hk := ?_) | refine Zn hc (hk := ?_) | fail) | ((first | refine run_callMQ ([(100000, 5), (50001, 40000)]) (writeString_ok true (M ++ tS (hstAt f.hosts j).2.2.2 i) _) hc (by simp; exact Gives.mk) (by simp; exact Gives.mk) (by simp; exact Gives.mk) (by simp; exact Gives.mk) (by simp; exact Gives.mk) rfl (by simp; exact Gives.mk) (by simp; exact Gives.mk) rfl (by simp) (by simp) (by simp; exact Gives.mk) (by simp; exact Gives.mk) (by first | exact True.intro | omega | (simp; done) | (simp; omega) | (simp at *; omega)) ?_ | fail)))
            all_goals try (exfalso; omega)
            exact ⟨i + 1, by omega, by omega, run_back [5, 6, 58, 59, 60, 80, 81, 82] [5, 40000] (by simp; exact Gives.mk) (by simp; exact Gives.mk) (by simp [hn2])⟩
          · obtain rfl : i = (hstAt f.hosts j).2.2.2.length := by omega
            repeat' (first | (first | refine Ya ?_ | refine Yb ?_ | refine Yc ?_ | refine Yd ?_ | refine Ye ?_ | refine Yf ?_ | refine Yg ?_ | refine Yh ?_ | refine Yi ?_ | refine Yj ?_ | refine Yk ?_ | refine Yl ?_ | refine Ym ?_ | refine Yn ?_ | refine Yo ?_ | refine Yp (h := ?_) | refine Yq ?_ | refine Yr ?_ | refine Ys ?_ | refine Zr hc (hk := ?_) | refine Zd hc (hk := ?_) | (refine Zc (ht := fun hb => ?_) (hf := fun hb => ?_) <;> (try simp at hb)) | fail) | (first | refine Zo hc (hk := ?_) | refine Zu hc (hk := ?_) | refine Ze hc (hk := ?_) | refine Zn hc (hk := ?_) | fail) | ((first | refine run_callMQ ([(100000, 5), (50001, 40000)]) (writeString_ok true (M ++ tS (hstAt f.hosts j).2.2.2 (hstAt f.hosts j).2.2.2.length) _) hc (by simp; exact Gives.mk) (by simp; exact Gives.mk) (by simp; exact Gives.mk) (by simp; exact Gives.mk) (by simp; exact Gives.mk) rfl (by simp; exact Gives.mk) (by simp; exact Gives.mk) rfl (by simp) (by simp) (by simp; exact Gives.mk) (by simp; exact Gives.mk) (by first | exact True.intro | omega | (simp; done) | (simp; omega) | (simp at *; omega)) ?_ | fail)))
            all_goals try (exfalso; omega)
            exact ⟨j + 1, by omega, by omega, run_back [5, 6, 58, 59, 60] [5, 40000] (by simp; exact Gives.mk) (by simp; exact Gives.mk) (by simp [hnx, ← hM]; omega)⟩
      · obtain rfl : j = f.hosts.length := by omega
        repeat' (first | (first | refine Ya ?_ | refine Yb ?_ | refine Yc ?_ | refine Yd ?_ | refine Ye ?_ | refine Yf ?_ | refine Yg ?_ | refine Yh ?_ | refine Yi ?_ | refine Yj ?_ | refine Yk ?_ | refine Yl ?_ | refine Ym ?_ | refine Yn ?_ | refine Yo ?_ | refine Yp (h := ?_) | refine Yq ?_ | refine Yr ?_ | refine Ys ?_ | refine Zr hc (hk := ?_) | refine Zd hc (hk := ?_) | (refine Zc (ht := fun hb => ?_) (hf := fun hb => ?_) <;> (try simp at hb)) | fail) | ((first | refine run_callM ([(100000, 5), (50001, 40000)]) (bldLen_ok true (A ++ tH f.hosts f.hosts.length)) hc (by simp; exact Gives.mk) (by simp; exact Gives.mk) (by simp; exact Gives.mk) (by simp; exact Gives.mk) (by simp; exact Gives.mk) rfl (by simp; exact Gives.mk) (by simp; exact Gives.mk) rfl (by simp) (by simp) (by simp; exact Gives.mk) (by simp; exact Gives.mk) ?_ | fail)) | ((first | refine run_callM ([(100000, 5), (50001, 40000)]) (string_ok true (A ++ tH f.hosts f.hosts.length)) hc (by simp; exact Gives.mk) (by simp; exact Gives.mk) (by simp; exact Gives.mk) (by simp; exact Gives.mk) (by simp; exact Gives.mk) rfl (by simp; exact Gives.mk) (by simp; exact Gives.mk) rfl (by simp) (by simp) (by simp; exact Gives.mk) (by simp; exact Gives.mk) ?_ | fail)) | (first | refine Zo hc (hk := ?_) | refine Zu hc (hk := ?_) | refine Ze hc (hk := ?_) | refine Zn hc (hk := ?_) | fail))
        all_goals try (exfalso; omega)
        · rw [if_pos (by rw [List.length_append]; omega)]
          (refine Zl hc (hr := ?_))
          simp
        · rw [if_neg (by rw [List.length_append]; omega)]
          (refine Zl hc (hr := ?_))
          simp
  · rw [if_pos he]
    repeat' (first | (first | refine Ya ?_ | refine Yb ?_ | refine Yc ?_ | refine Yd ?_ | refine Ye ?_ | refine Yf ?_ | refine Yg ?_ | refine Yh ?_ | refine Yi ?_ | refine Yj ?_ | refine Yk ?_ | refine Yl ?_ | refine Ym ?_ | refine Yn ?_ | refine Yo ?_ | refine Yp (h := ?_) | refine Yq ?_ | refine Yr ?_ | refine Ys ?_ | refine Zr hc (hk := ?_) | refine Zd hc (hk := ?_) | (refine Zc (ht := fun hb => ?_) (hf := fun hb => ?_) <;> (try simp at hb)) | fail) | (first | refine Zw hc (hf := by exact hF) (hk := ?_) | refine Zq hc (hf := by exact hF) (hk := ?_) | refine Zo hc (hk := ?_) | refine Zu hc (hk := ?_) | refine Ze hc (hk := ?_) | refine Zn hc (hk := ?_) | fail))
    all_goals try contradiction
    (refine Zl hc (hr := ?_))
    simp
end Go.Proofs.YtnainpghpjelcaaGreatDoor
/-
  FRONTIER: the text of a frontier: the reference's walk. (WITH run_drawN.)
-/
set_option linter.unusedSimpArgs false
set_option linter.unusedVariables false
namespace Go.Proofs.YtnainpghpjelcaaGreatDoor
open Go.Lw Go.RowKit
set_option maxRecDepth 100000
set_option maxHeartbeats 4000000

theorem qFrText_ok (f : Frt) (hf : FrOk f) : FnOk Tryz.prog 32 [frD f] (txtD f) := by
  refine fnOk Tryz.func32 rfl (by kernel_rfl) Tryz.ntmps32 _ rfl (by simp) fun C hc => ?_
  have hF := qCheckFr_ok f hf
  have hgd := fun h => frE_good (f := f) h
  unfold txtD
  generalize frE f = e at hF hgd ⊢
  by_cases he : e = 0
  · subst he
    rw [if_neg (fun h => h rfl)]
    have hg := frTx_of (hgd rfl)
    have lI := tI_len hg
    have lH := tH_len hg
    have hB := itoaI_ok f.budget hg.budget.1 hg.budget.2
    have hW := itoaI_ok f.window hg.window.1 hg.window.2
    have lB := decI_len hg.budget.2
    have lW := decI_len hg.window.2
    rw [txt_eq]
    have eF := lnF_eq f
    have lF : (lnF f).length ≤ 40 := by rw [eF]; simp; omega
    obtain ⟨-, -, q3, q4, q5, q6⟩ := hg
    repeat' (first | (first | refine Ya ?_ | refine Yb ?_ | refine Yc ?_ | refine Yd ?_ | refine Ye ?_ | refine Yf ?_ | refine Yg ?_ | refine Yh ?_ | refine Yi ?_ | refine Yj ?_ | refine Yk ?_ | refine Yl ?_ | refine Ym ?_ | refine Yn ?_ | refine Yo ?_ | refine Yp (h := ?_) | refine Yq ?_ | refine Yr ?_ | refine Ys ?_ | refine Zr hc (hk := ?_) | refine Zd hc (hk := ?_) | (refine Zc (ht := fun hb => ?_) (hf := fun hb => ?_) <;> (try simp at hb)) | fail) | (first | refine Zw hc (hf := by first | exact hF | exact hB | exact hW) (hk := ?_) | refine Zq hc (hf := by first | exact hF | exact hB | exact hW) (hk := ?_) | refine Zo hc (hk := ?_) | refine Zu hc (hk := ?_) | refine Ze hc (hk := ?_) | refine Zn hc (hk := ?_) | fail))
    all_goals try contradiction
    refine ewp_loop (fun j : Nat => ⟨[(1, .bp 1 0), (5, .d (str (lnF f ++ [10] ++ tI f.items j))), (29, .d (wntSl f.items)), (30, .d (int f.items.length)), (31, .d (int j))], [(1, .box 25 [.d (wntSl f.items), .d (hstSl f.hosts), .d (int f.budget), .d (int f.window)])]⟩) (fun j => j ≤ f.items.length) (fun j => f.items.length - j) 0 (by simp) (run_back [1, 5, 29, 30, 31] [1] (by simp; exact Gives.mk) (by simp; exact Gives.mk) (by simp [eF, tI])) ?_
    clear hF hB hW eF
    intro j hj
    have lj := lI j
    by_cases hlt : j < f.items.length
    · obtain ⟨w1, w2⟩ := q5 j hlt
      have hR := itoaI_ok (wntAt f.items j).2.1 w1.rank.1 w1.rank.2
      have hD := itoaI_ok (wntAt f.items j).2.2 w1.due.1 w1.due.2
      have l1 := decI_len w1.rank.2
      have l2 := decI_len w1.due.2
      have hnx := tI_next f.items hlt
      repeat' (first | (first | refine Ya ?_ | refine Yb ?_ | refine Yc ?_ | refine Yd ?_ | refine Ye ?_ | refine Yf ?_ | refine Yg ?_ | refine Yh ?_ | refine Yi ?_ | refine Yj ?_ | refine Yk ?_ | refine Yl ?_ | refine Ym ?_ | refine Yn ?_ | refine Yo ?_ | refine Yp (h := ?_) | refine Yq ?_ | refine Yr ?_ | refine Ys ?_ | refine Zr hc (hk := ?_) | refine Zd hc (hk := ?_) | (refine Zc (ht := fun hb => ?_) (hf := fun hb => ?_) <;> (try simp at hb)) | fail) | (first | refine Zw hc (hf := by first | exact hR | exact hD) (hk := ?_) | refine Zq hc (hf := by first | exact hR | exact hD) (hk := ?_) | refine Zo hc (hk := ?_) | refine Zu hc (hk := ?_) | refine Ze hc (hk := ?_) | refine Zn hc (hk := ?_) | fail))
      all_goals try (exfalso; omega)
      exact ⟨j + 1, by omega, by omega, run_back [1, 5, 29, 30, 31] [1] (by simp; exact Gives.mk) (by simp; exact Gives.mk) (by simp [hnx])⟩
    · obtain rfl : j = f.items.length := by omega
      generalize hA : lnF f ++ [10] ++ tI f.items f.items.length = A
      have lA : A.length ≤ 4080041 := by rw [← hA]; simp; omega
      clear hA lj
      repeat' (first | (first | refine Ya ?_ | refine Yb ?_ | refine Yc ?_ | refine Yd ?_ | refine Ye ?_ | refine Yf ?_ | refine Yg ?_ | refine Yh ?_ | refine Yi ?_ | refine Yj ?_ | refine Yk ?_ | refine Yl ?_ | refine Ym ?_ | refine Yn ?_ | refine Yo ?_ | refine Yp (h := ?_) | refine Yq ?_ | refine Yr ?_ | refine Ys ?_ | refine Zr hc (hk := ?_) | refine Zd hc (hk := ?_) | (refine Zc (ht := fun hb => ?_) (hf := fun hb => ?_) <;> (try simp at hb)) | fail) | (first | refine Zo hc (hk := ?_) | refine Zu hc (hk := ?_) | refine Ze hc (hk := ?_) | refine Zn hc (hk := ?_) | fail))
      all_goals try (exfalso; omega)
      refine ewp_loop (fun j : Nat => ⟨[(5, .d (str (A ++ tH f.hosts j))), (53, .d (hstSl f.hosts)), (54, .d (int f.hosts.length)), (55, .d (int j))], []⟩) (fun j => j ≤ f.hosts.length) (fun j => f.hosts.length - j) 0 (by simp) (run_back [5, 53, 54, 55] [] (by simp; exact Gives.mk) (by simp; exact Gives.mk) (by simp [tH])) ?_
      clear hj hlt
      intro j hj
      have lj := lH j
      by_cases hlt : j < f.hosts.length
      · obtain ⟨h1, h2, h3⟩ := q6 j hlt
        have hR := itoaI_ok (hstAt f.hosts j).2.1 h1.free.1 h1.free.2
        have l1 := decI_len h1.free.2
        have hnx := tH_next f.hosts hlt
        have lb := bzy_len (hstAt f.hosts j).2.2.1
        generalize hbz : (hstAt f.hosts j).2.2.1 = bz at hnx lb
        repeat' (first | (first | refine Ya ?_ | refine Yb ?_ | refine Yc ?_ | refine Yd ?_ | refine Ye ?_ | refine Yf ?_ | refine Yg ?_ | refine Yh ?_ | refine Yi ?_ | refine Yj ?_ | refine Yk ?_ | refine Yl ?_ | refine Ym ?_ | refine Yn ?_ | refine Yo ?_ | refine Yp (h := ?_) | refine Yq ?_ | refine Yr ?_ | refine Ys ?_ | refine Zr hc (hk := ?_) | refine Zd hc (hk := ?_) | (refine Zc (ht := fun hb => ?_) (hf := fun hb => ?_) <;> (try simp at hb)) | fail) | (first | refine Zo hc (hk := ?_) | refine Zu hc (hk := ?_) | refine Ze hc (hk := ?_) | fail))
        all_goals try (exfalso; omega)
        · have hb2 : bz = true := by rw [← hbz]; exact hb
          repeat' (first | (first | refine Ya ?_ | refine Yb ?_ | refine Yc ?_ | refine Yd ?_ | refine Ye ?_ | refine Yf ?_ | refine Yg ?_ | refine Yh ?_ | refine Yi ?_ | refine Yj ?_ | refine Yk ?_ | refine Yl ?_ | refine Ym ?_ | refine Yn ?_ | refine Yo ?_ | refine Yp (h := ?_) | refine Yq ?_ | refine Yr ?_ | refine Ys ?_ | refine Zr hc (hk := ?_) | refine Zd hc (hk := ?_) | (refine Zc (ht := fun hb => ?_) (hf := fun hb => ?_) <;> (try simp at hb)) | fail) | (first | refine Zw hc (hf := by exact hR) (hk := ?_) | refine Zq hc (hf := by exact hR) (hk := ?_) | refine Zo hc (hk := ?_) | refine Zu hc (hk := ?_) | refine Ze hc (hk := ?_) | refine Zn hc (hk := ?_) | fail))
          refine ewp_loop (fun i : Nat => ⟨[(5, .d (str (A ++ tH f.hosts j ++ ([104, 111, 115, 116, 32] ++ (hstAt f.hosts j).1 ++ [32] ++ decI (hstAt f.hosts j).2.1 ++ [32] ++ bzy bz) ++ tS (hstAt f.hosts j).2.2.2 i))), (53, .d (hstSl f.hosts)), (54, .d (int f.hosts.length)), (55, .d (int j)), (75, .d (intSl (hstAt f.hosts j).2.2.2)), (76, .d (int (hstAt f.hosts j).2.2.2.length)), (77, .d (int i))], []⟩) (fun i => i ≤ (hstAt f.hosts j).2.2.2.length) (fun i => (hstAt f.hosts j).2.2.2.length - i) 0 (by simp) (run_back [5, 53, 54, 55, 75, 76, 77] [] (by simp; exact Gives.mk) (by simp; exact Gives.mk) (by simp [tS, bzy, hb2])) ?_
          generalize hM : A ++ tH f.hosts j ++ ([104, 111, 115, 116, 32] ++ (hstAt f.hosts j).1 ++ [32] ++ decI (hstAt f.hosts j).2.1 ++ [32] ++ bzy bz) = M
          have lM : M.length ≤ A.length + (tH f.hosts j).length + 2030 := by rw [← hM]; simp [bzy_len]; omega
          intro i hi
          have li := tS_len _ h1.starts i
          by_cases hl2 : i < (hstAt f.hosts j).2.2.2.length
          · have hn2 := tS_next _ hl2
            have hst := h1.starts _ (List.getElem_mem hl2)
            have hge : (hstAt f.hosts j).2.2.2[i]?.getD 0 = (hstAt f.hosts j).2.2.2[i] := by rw [List.getElem?_eq_getElem hl2]; rfl
            rw [← hge] at hst
            have hN := itoaI_ok ((hstAt f.hosts j).2.2.2[i]?.getD 0) hst.1 hst.2
            have l5 := decI_len hst.2
            clear hge
            repeat' (first | (first | refine Ya ?_ | refine Yb ?_ | refine Yc ?_ | refine Yd ?_ | refine Ye ?_ | refine Yf ?_ | refine Yg ?_ | refine Yh ?_ | refine Yi ?_ | refine Yj ?_ | refine Yk ?_ | refine Yl ?_ | refine Ym ?_ | refine Yn ?_ | refine Yo ?_ | refine Yp (h := ?_) | refine Yq ?_ | refine Yr ?_ | refine Ys ?_ | refine Zr hc (hk := ?_) | refine Zd hc (hk := ?_) | (refine Zc (ht := fun hb => ?_) (hf := fun hb => ?_) <;> (try simp at hb)) | fail) | (first | refine Zw hc (hf := by exact hN) (hk := ?_) | refine Zq hc (hf := by exact hN) (hk := ?_) | refine Zo hc (hk := ?_) | refine Zu hc (hk := ?_) | refine Ze hc (hk := ?_) | refine Zn hc (hk := ?_) | fail))
            all_goals try (exfalso; omega)
            exact ⟨i + 1, by omega, by omega, run_back [5, 53, 54, 55, 75, 76, 77] [] (by simp; exact Gives.mk) (by simp; exact Gives.mk) (by simp [hn2])⟩
          · obtain rfl : i = (hstAt f.hosts j).2.2.2.length := by omega
            repeat' (first | (first | refine Ya ?_ | refine Yb ?_ | refine Yc ?_ | refine Yd ?_ | refine Ye ?_ | refine Yf ?_ | refine Yg ?_ | refine Yh ?_ | refine Yi ?_ | refine Yj ?_ | refine Yk ?_ | refine Yl ?_ | refine Ym ?_ | refine Yn ?_ | refine Yo ?_ | refine Yp (h := ?_) | refine Yq ?_ | refine Yr ?_ | refine Ys ?_ | refine Zr hc (hk := ?_) | refine Zd hc (hk := ?_) | (refine Zc (ht := fun hb => ?_) (hf := fun hb => ?_) <;> (try simp at hb)) | fail) | (first | refine Zo hc (hk := ?_) | refine Zu hc (hk := ?_) | refine Ze hc (hk := ?_) | refine Zn hc (hk := ?_) | fail))
            all_goals try (exfalso; omega)
            exact ⟨j + 1, by omega, by omega, run_back [5, 53, 54, 55] [] (by simp; exact Gives.mk) (by simp; exact Gives.mk) (by simp [hnx, ← hM])⟩
        · have hb2 : bz = false := by rw [← hbz]; exact hb
          repeat' (first | (first | refine Ya ?_ | refine Yb ?_ | refine Yc ?_ | refine Yd ?_ | refine Ye ?_ | refine Yf ?_ | refine Yg ?_ | refine Yh ?_ | refine Yi ?_ | refine Yj ?_ | refine Yk ?_ | refine Yl ?_ | refine Ym ?_ | refine Yn ?_ | refine Yo ?_ | refine Yp (h := ?_) | refine Yq ?_ | refine Yr ?_ | refine Ys ?_ | refine Zr hc (hk := ?_) | refine Zd hc (hk := ?_) | (refine Zc (ht := fun hb => ?_) (hf := fun hb => ?_) <;> (try simp at hb)) | fail) | (first | refine Zw hc (hf := by exact hR) (hk := ?_) | refine Zq hc (hf := by exact hR) (hk := ?_) | refine Zo hc (hk := ?_) | refine Zu hc (hk := ?_) | refine Ze hc (hk := ?_) | refine Zn hc (hk := ?_) | fail))
          refine ewp_loop (fun i : Nat => ⟨[(5, .d (str (A ++ tH f.hosts j ++ ([104, 111, 115, 116, 32] ++ (hstAt f.hosts j).1 ++ [32] ++ decI (hstAt f.hosts j).2.1 ++ [32] ++ bzy bz) ++ tS (hstAt f.hosts j).2.2.2 i))), (53, .d (hstSl f.hosts)), (54, .d (int f.hosts.length)), (55, .d (int j)), (75, .d (intSl (hstAt f.hosts j).2.2.2)), (76, .d (int (hstAt f.hosts j).2.2.2.length)), (77, .d (int i))], []⟩) (fun i => i ≤ (hstAt f.hosts j).2.2.2.length) (fun i => (hstAt f.hosts j).2.2.2.length - i) 0 (by simp) (run_back [5, 53, 54, 55, 75, 76, 77] [] (by simp; exact Gives.mk) (by simp; exact Gives.mk) (by simp [tS, bzy, hb2])) ?_
          generalize hM : A ++ tH f.hosts j ++ ([104, 111, 115, 116, 32] ++ (hstAt f.hosts j).1 ++ [32] ++ decI (hstAt f.hosts j).2.1 ++ [32] ++ bzy bz) = M
          have lM : M.length ≤ A.length + (tH f.hosts j).length + 2030 := by rw [← hM]; simp [bzy_len]; omega
          intro i hi
          have li := tS_len _ h1.starts i
          by_cases hl2 : i < (hstAt f.hosts j).2.2.2.length
          · have hn2 := tS_next _ hl2
            have hst := h1.starts _ (List.getElem_mem hl2)
            have hge : (hstAt f.hosts j).2.2.2[i]?.getD 0 = (hstAt f.hosts j).2.2.2[i] := by rw [List.getElem?_eq_getElem hl2]; rfl
            rw [← hge] at hst
            have hN := itoaI_ok ((hstAt f.hosts j).2.2.2[i]?.getD 0) hst.1 hst.2
            have l5 := decI_len hst.2
            clear hge
            repeat' (first | (first | refine Ya ?_ | refine Yb ?_ | refine Yc ?_ | refine Yd ?_ | refine Ye ?_ | refine Yf ?_ | refine Yg ?_ | refine Yh ?_ | refine Yi ?_ | refine Yj ?_ | refine Yk ?_ | refine Yl ?_ | refine Ym ?_ | refine Yn ?_ | refine Yo ?_ | refine Yp (h := ?_) | refine Yq ?_ | refine Yr ?_ | refine Ys ?_ | refine Zr hc (hk := ?_) | refine Zd hc (hk := ?_) | (refine Zc (ht := fun hb => ?_) (hf := fun hb => ?_) <;> (try simp at hb)) | fail) | (first | refine Zw hc (hf := by exact hN) (hk := ?_) | refine Zq hc (hf := by exact hN) (hk := ?_) | refine Zo hc (hk := ?_) | refine Zu hc (hk := ?_) | refine Ze hc (hk := ?_) | refine Zn hc (hk := ?_) | fail))
            all_goals try (exfalso; omega)
            exact ⟨i + 1, by omega, by omega, run_back [5, 53, 54, 55, 75, 76, 77] [] (by simp; exact Gives.mk) (by simp; exact Gives.mk) (by simp [hn2])⟩
          · obtain rfl : i = (hstAt f.hosts j).2.2.2.length := by omega
            repeat' (first | (first | refine Ya ?_ | refine Yb ?_ | refine Yc ?_ | refine Yd ?_ | refine Ye ?_ | refine Yf ?_ | refine Yg ?_ | refine Yh ?_ | refine Yi ?_ | refine Yj ?_ | refine Yk ?_ | refine Yl ?_ | refine Ym ?_ | refine Yn ?_ | refine Yo ?_ | refine Yp (h := ?_) | refine Yq ?_ | refine Yr ?_ | refine Ys ?_ | refine Zr hc (hk := ?_) | refine Zd hc (hk := ?_) | (refine Zc (ht := fun hb => ?_) (hf := fun hb => ?_) <;> (try simp at hb)) | fail) | (first | refine Zo hc (hk := ?_) | refine Zu hc (hk := ?_) | refine Ze hc (hk := ?_) | refine Zn hc (hk := ?_) | fail))
            all_goals try (exfalso; omega)
            exact ⟨j + 1, by omega, by omega, run_back [5, 53, 54, 55] [] (by simp; exact Gives.mk) (by simp; exact Gives.mk) (by simp [hnx, ← hM])⟩
      · obtain rfl : j = f.hosts.length := by omega
        repeat' (first | (first | refine Ya ?_ | refine Yb ?_ | refine Yc ?_ | refine Yd ?_ | refine Ye ?_ | refine Yf ?_ | refine Yg ?_ | refine Yh ?_ | refine Yi ?_ | refine Yj ?_ | refine Yk ?_ | refine Yl ?_ | refine Ym ?_ | refine Yn ?_ | refine Yo ?_ | refine Yp (h := ?_) | refine Yq ?_ | refine Yr ?_ | refine Ys ?_ | refine Zr hc (hk := ?_) | refine Zd hc (hk := ?_) | (refine Zc (ht := fun hb => ?_) (hf := fun hb => ?_) <;> (try simp at hb)) | fail) | (first | refine Zo hc (hk := ?_) | refine Zu hc (hk := ?_) | refine Ze hc (hk := ?_) | refine Zn hc (hk := ?_) | fail))
        all_goals try (exfalso; omega)
        · rw [if_pos (by rw [List.length_append]; omega)]
          (refine Zl hc (hr := ?_))
          simp
        · rw [if_neg (by rw [List.length_append]; omega)]
          (refine Zl hc (hr := ?_))
          simp
  · rw [if_pos he]
    repeat' (first | (first | refine Ya ?_ | refine Yb ?_ | refine Yc ?_ | refine Yd ?_ | refine Ye ?_ | refine Yf ?_ | refine Yg ?_ | refine Yh ?_ | refine Yi ?_ | refine Yj ?_ | refine Yk ?_ | refine Yl ?_ | refine Ym ?_ | refine Yn ?_ | refine Yo ?_ | refine Yp (h := ?_) | refine Yq ?_ | refine Yr ?_ | refine Ys ?_ | refine Zr hc (hk := ?_) | refine Zd hc (hk := ?_) | (refine Zc (ht := fun hb => ?_) (hf := fun hb => ?_) <;> (try simp at hb)) | fail) | (first | refine Zw hc (hf := by exact hF) (hk := ?_) | refine Zq hc (hf := by exact hF) (hk := ?_) | refine Zo hc (hk := ?_) | refine Zu hc (hk := ?_) | refine Ze hc (hk := ?_) | refine Zn hc (hk := ?_) | fail))
    all_goals try contradiction
    (refine Zl hc (hr := ?_))
    simp
end Go.Proofs.YtnainpghpjelcaaGreatDoor
/-
  FRONTIER: FrontierTextsMatchSpec's own walk. (WITH run_drawN.)
-/
set_option linter.unusedSimpArgs false
set_option linter.unusedVariables false
namespace Go.Proofs.YtnainpghpjelcaaGreatDoor
open Go.Lw Go.RowKit
set_option maxRecDepth 100000
set_option maxHeartbeats 2000000

theorem mem_at {α : Type} {L : List α} {p : α → Prop} (d : α) (h : ∀ j, j < L.length → p (L[j]?.getD d)) : ∀ x ∈ L, p x := fun x hx => by
  obtain ⟨j, hj⟩ := List.mem_iff_getElem?.1 hx
  have := h j (List.getElem?_eq_some_iff.1 hj).1
  rw [hj] at this
  exact this
theorem read_back {f : Frt} (h : frE f = 0) (hl : ¬ 5000000 < (txtF f).length) : frReadD (txtF f) = .tup [frD f, int 0, int 0] := by
  have hg := frTx_of (frE_good h)
  have hr := read_txt hg.budget hg.window (mem_at wnt0 fun j hj => (hg.wnt j hj).1) (mem_at hst0 fun j hj => (hg.hst j hj).1)
  unfold frReadD
  rw [if_neg hl, hr]
  simp only
  rw [if_neg (fun e => e h)]
theorem textsSpec_ok (f : Frt) (hf : FrOk f) : FnOk Tryz.prog 8 [frD f] (tru true) := by
  refine fnOk Tryz.func8 rfl (by kernel_rfl) Tryz.ntmps8 _ rfl (by simp) fun C hc => ?_
  have hP := frText_ok f hf
  have hQ := qFrText_ok f hf
  have hS := same_ok f hf
  have hb := @read_back f
  have hR := frRead_ok line_ok (txtF f)
  unfold txtD at hP hQ
  by_cases he : frE f = 0
  · rw [if_neg (fun e => e he)] at hP hQ
    by_cases hl : 5000000 < (txtF f).length
    · rw [if_pos hl] at hP hQ
      clear hb hR
      repeat' (first | (first | refine Ya ?_ | refine Yb ?_ | refine Yc ?_ | refine Yd ?_ | refine Ye ?_ | refine Yf ?_ | refine Yg ?_ | refine Yh ?_ | refine Yi ?_ | refine Yj ?_ | refine Yk ?_ | refine Yl ?_ | refine Ym ?_ | refine Yn ?_ | refine Yo ?_ | refine Yp (h := ?_) | refine Yq ?_ | refine Yr ?_ | refine Ys ?_ | refine Zr hc (hk := ?_) | refine Zd hc (hk := ?_) | (refine Zc (ht := fun hb => ?_) (hf := fun hb => ?_) <;> (try simp at hb)) | fail) | (first | refine Zw hc (hf := by first | exact hP | exact hQ | exact awake5_ok) (hk := ?_) | refine Zq hc (hf := by first | exact hP | exact hQ | exact awake5_ok) (hk := ?_) | refine Zo hc (hk := ?_) | refine Zu hc (hk := ?_) | refine Ze hc (hk := ?_) | refine Zn hc (hk := ?_) | fail))
      all_goals try contradiction
      all_goals (refine Zl hc (hr := ?_))
      all_goals simp
    · rw [if_neg hl] at hP hQ
      rw [hb he hl] at hR
      clear hb
      generalize txtF f = t at hP hQ hR
      repeat' (first | (first | refine Ya ?_ | refine Yb ?_ | refine Yc ?_ | refine Yd ?_ | refine Ye ?_ | refine Yf ?_ | refine Yg ?_ | refine Yh ?_ | refine Yi ?_ | refine Yj ?_ | refine Yk ?_ | refine Yl ?_ | refine Ym ?_ | refine Yn ?_ | refine Yo ?_ | refine Yp (h := ?_) | refine Yq ?_ | refine Yr ?_ | refine Ys ?_ | refine Zr hc (hk := ?_) | refine Zd hc (hk := ?_) | (refine Zc (ht := fun hb => ?_) (hf := fun hb => ?_) <;> (try simp at hb)) | fail) | (first | refine Zw hc (hf := by first | exact hP | exact hQ | exact hR | exact hS | exact awake5_ok) (hk := ?_) | refine Zq hc (hf := by first | exact hP | exact hQ | exact hR | exact hS | exact awake5_ok) (hk := ?_) | refine Zo hc (hk := ?_) | refine Zu hc (hk := ?_) | refine Ze hc (hk := ?_) | refine Zn hc (hk := ?_) | fail))
      all_goals try contradiction
      all_goals try (exfalso; omega)
      all_goals (refine Zl hc (hr := ?_))
      all_goals simp
  · rw [if_pos he] at hP hQ
    clear hb hR
    have he' : ¬ (frE f : Int) = 0 := by omega
    generalize frE f = e at hP hQ he he'
    repeat' (first | (first | refine Ya ?_ | refine Yb ?_ | refine Yc ?_ | refine Yd ?_ | refine Ye ?_ | refine Yf ?_ | refine Yg ?_ | refine Yh ?_ | refine Yi ?_ | refine Yj ?_ | refine Yk ?_ | refine Yl ?_ | refine Ym ?_ | refine Yn ?_ | refine Yo ?_ | refine Yp (h := ?_) | refine Yq ?_ | refine Yr ?_ | refine Ys ?_ | refine Zr hc (hk := ?_) | refine Zd hc (hk := ?_) | (refine Zc (ht := fun hb => ?_) (hf := fun hb => ?_) <;> (try simp at hb)) | fail) | (first | refine Zw hc (hf := by first | exact hP | exact hQ | exact awake5_ok) (hk := ?_) | refine Zq hc (hf := by first | exact hP | exact hQ | exact awake5_ok) (hk := ?_) | refine Zo hc (hk := ?_) | refine Zu hc (hk := ?_) | refine Ze hc (hk := ?_) | refine Zn hc (hk := ?_) | fail))
    all_goals try contradiction
    all_goals try (exfalso; omega)
    all_goals (refine Zl hc (hr := ?_))
    all_goals simp
end Go.Proofs.YtnainpghpjelcaaGreatDoor
