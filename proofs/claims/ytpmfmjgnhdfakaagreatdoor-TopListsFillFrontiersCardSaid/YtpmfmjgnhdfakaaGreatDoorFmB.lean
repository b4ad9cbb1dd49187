/-
  FRONTIER: clones, and a frontier of one's own (both sides). (WITH run_drawN.)
-/
import Derived.Test.YtpmfmjgnhdfakaaGreatDoorFnA
import Derived.Test.YtpmfmjgnhdfakaaGreatDoorOwnD
set_option linter.unusedSimpArgs false
set_option linter.unusedVariables false
namespace Go.Proofs.YtpmfmjgnhdfakaaGreatDoor
open Go.Lw Go.RowKit
set_option maxRecDepth 100000
set_option maxHeartbeats 2000000

theorem cloneW_ok (L : List Wnt) (hm : L.length * 32 ≤ 140737488355328) : FnMem Tryz.prog 72 [.d (wntSl L)] [] (.os 5 L.length) [(5, .own 48 3 (true, [str [], int 0, int 0]) (L.map wntCells))] := by
  refine fnMem Tryz.func72 rfl (by kernel_rfl) Tryz.ntmps72 _ rfl (by simp) fun C hc => ?_
  repeat' (first | (first | refine Ya ?_ | refine Yb ?_ | refine Yc ?_ | refine Yd ?_ | refine Ye ?_ | refine Yf ?_ | refine Yg ?_ | refine Yh ?_ | refine Yi ?_ | refine Yj ?_ | refine Yk ?_ | refine Yl ?_ | refine Ym ?_ | refine Yn ?_ | refine Yo ?_ | refine Yp (h := ?_) | refine Yq ?_ | refine Yr ?_ | refine Ys ?_ | refine Zr hc (hk := ?_) | refine Zd hc (hk := ?_) | (refine Zc (ht := fun hb => ?_) (hf := fun hb => ?_) <;> (try simp at hb)) | fail) | (refine run_isNil hc (by simp; exact Gives.mk) (by simp; exact Gives.mk) (by simp; exact Gives.mk) (by simp) (fun bn hbn => ?_)) | (first | refine Zo hc (hk := ?_) | refine Zu hc (hk := ?_) | refine Ze hc (hk := ?_) | refine Zn hc (hk := ?_) | fail))
  · have h0 := hbn hb
    obtain rfl : L = [] := by simpa using h0
    exact run_leaveM [5] hc (le_births [(2, none, 5, 48, [str [], int 0, int 0])] (by simp; exact Gives.mk) (le_end rfl)) (by simp; exact Gives.mk) (by simp; exact Gives.mk) (by simp) (by simp)
  · refine run_leaveM [5] hc (le_end rfl) (by simp; exact Gives.mk) (by simp; exact Gives.mk) (by simp) ?_
    simpa [wntAt] using map_range_getD L wnt0 wntCells
/-- No starts. -/
abbrev noSt : D := intSl []
theorem cloneH_ok (L : List Hst) (hm : L.length * 56 ≤ 140737488355328) : FnMem Tryz.prog 73 [.d (hstSl L)] [] (.os 5 L.length) [(5, .own 116 4 (true, [str [], int 0, tru false, noSt]) (L.map hstCells))] := by
  refine fnMem Tryz.func73 rfl (by kernel_rfl) Tryz.ntmps73 _ rfl (by simp) fun C hc => ?_
  repeat' (first | (first | refine Ya ?_ | refine Yb ?_ | refine Yc ?_ | refine Yd ?_ | refine Ye ?_ | refine Yf ?_ | refine Yg ?_ | refine Yh ?_ | refine Yi ?_ | refine Yj ?_ | refine Yk ?_ | refine Yl ?_ | refine Ym ?_ | refine Yn ?_ | refine Yo ?_ | refine Yp (h := ?_) | refine Yq ?_ | refine Yr ?_ | refine Ys ?_ | refine Zr hc (hk := ?_) | refine Zd hc (hk := ?_) | (refine Zc (ht := fun hb => ?_) (hf := fun hb => ?_) <;> (try simp at hb)) | fail) | (refine run_isNil hc (by simp; exact Gives.mk) (by simp; exact Gives.mk) (by simp; exact Gives.mk) (by simp) (fun bn hbn => ?_)) | (first | refine Zo hc (hk := ?_) | refine Zu hc (hk := ?_) | refine Ze hc (hk := ?_) | refine Zn hc (hk := ?_) | fail))
  · have h0 := hbn hb
    obtain rfl : L = [] := by simpa using h0
    exact run_leaveM [5] hc (le_births [(2, none, 5, 116, [str [], int 0, tru false, noSt])] (by simp; exact Gives.mk) (le_end rfl)) (by simp; exact Gives.mk) (by simp; exact Gives.mk) (by simp) (by simp)
  · refine run_leaveM [5] hc (le_rez 5 [str [], int 0, tru false, noSt] (by simp; exact Gives.mk) (by simp; exact Gives.mk) (le_end rfl)) (by simp; exact Gives.mk) (by simp; exact Gives.mk) (by simp) ?_
    simpa [hstAt] using map_range_getD L hst0 hstCells
theorem cloneI_m (l : List Int) (hm : l.length * 8 ≤ 140737488355328) : FnMem Tryz.prog 74 [.d (intSl l)] [] (.os 5 l.length) [(5, .own 3 1 (true, [int 0]) (l.map fun y => [int y]))] := by
  refine fnMem Tryz.func74 rfl (by kernel_rfl) Tryz.ntmps74 _ rfl (by simp) fun C hc => ?_
  repeat' (first | (first | refine Ya ?_ | refine Yb ?_ | refine Yc ?_ | refine Yd ?_ | refine Ye ?_ | refine Yf ?_ | refine Yg ?_ | refine Yh ?_ | refine Yi ?_ | refine Yj ?_ | refine Yk ?_ | refine Yl ?_ | refine Ym ?_ | refine Yn ?_ | refine Yo ?_ | refine Yp (h := ?_) | refine Yq ?_ | refine Yr ?_ | refine Ys ?_ | refine Zr hc (hk := ?_) | refine Zd hc (hk := ?_) | (refine Zc (ht := fun hb => ?_) (hf := fun hb => ?_) <;> (try simp at hb)) | fail) | (refine run_isNil hc (by simp; exact Gives.mk) (by simp; exact Gives.mk) (by simp; exact Gives.mk) (by simp) (fun bn hbn => ?_)) | (first | refine Zo hc (hk := ?_) | refine Zu hc (hk := ?_) | refine Ze hc (hk := ?_) | refine Zn hc (hk := ?_) | fail))
  · have h0 := hbn hb
    obtain rfl : l = [] := by simpa using h0
    exact run_leaveM [5] hc (le_births [(2, none, 5, 3, [int 0])] (by simp; exact Gives.mk) (le_end rfl)) (by simp; exact Gives.mk) (by simp; exact Gives.mk) (by simp) (by simp)
  · refine run_leaveM [5] hc (le_end rfl) (by simp; exact Gives.mk) (by simp; exact Gives.mk) (by simp) ?_
    simpa using map_range_getD l (0 : Int) (fun y => [int y])
theorem cloneI_ok (l : List Int) (hm : l.length * 8 ≤ 140737488355328) : FnOk Tryz.prog 74 [intSl l] (intSl l) := by
  have h := fnOk_own (args := [intSl l]) (cloneI_m l hm) (by simp)
  have e : (fun i => (l.map fun y => [int y]).getD i [int 0]) = fun i => [int (l[i]?.getD 0)] := by
    funext i
    cases h : l[i]? <;> simp [h]
  rw [e] at h
  exact h
/-! A row that is read. -/
@[simp] theorem row_h (o : Option Hst) : (Option.map hstCells o).getD [str [], int 0, tru false, intSl []] = [str (o.getD hst0).1, int (o.getD hst0).2.1, tru (o.getD hst0).2.2.1, intSl (o.getD hst0).2.2.2] := by cases o <;> rfl
@[simp] theorem row_w (o : Option Wnt) : (Option.map wntCells o).getD [str [], int 0, int 0] = [str (o.getD wnt0).1, int (o.getD wnt0).2.1, int (o.getD wnt0).2.2] := by cases o <;> rfl
end Go.Proofs.YtpmfmjgnhdfakaaGreatDoor
/-
  FRONTIER: a frontier of one's own (both sides). (WITH run_drawN.)
-/
set_option linter.unusedSimpArgs false
set_option linter.unusedVariables false
namespace Go.Proofs.YtpmfmjgnhdfakaaGreatDoor
open Go.Lw Go.RowKit
set_option maxRecDepth 100000
set_option maxHeartbeats 4000000

/-- A frontier of one's own. -/
def owV (f : Frt) : V := .vagg [.os 40001 f.items.length, .os 40002 f.hosts.length, .d (int f.budget), .d (int f.window)]
abbrev owW (I : List Wnt) : Nat × O := (40001, .own 48 3 (true, [str [], int 0, int 0]) (I.map wntCells))
abbrev owH (H : List Hst) : Nat × O := (40002, .own 116 4 (true, [str [], int 0, tru false, noSt]) (H.map hstCells))
theorem set_same {α : Type} (l : List α) (j : Nat) (x : α) (h : l[j]? = some x) : l.set j x = l := by
  apply List.ext_getElem?
  intro i
  rw [List.getElem?_set]
  split
  · rename_i e; subst e
    split
    · exact h.symm
    · rename_i hl; rw [List.getElem?_eq_none (by omega)]
  · rfl
theorem frOwn_ok (f : Frt) (h1 : f.items.length ≤ 2000) (h2 : f.hosts.length ≤ 300) (h3 : ∀ j, j < f.hosts.length → (hstAt f.hosts j).2.2.2.length ≤ 200) : FnMem Tryz.prog 31 [.d (frD f)] [] (owV f) [owW f.items, owH f.hosts] := by
  unfold owV
  refine fnMem Tryz.func31 rfl (by kernel_rfl) Tryz.ntmps31 _ rfl (by simp) fun C hc => ?_
  have hW := cloneW_ok f.items (by omega)
  have hH := cloneH_ok f.hosts (by omega)
  obtain ⟨I, H, bu, wi⟩ := f
  simp only at h1 h2 h3 hW hH ⊢
  repeat' (first | (first | refine Ya ?_ | refine Yb ?_ | refine Yc ?_ | refine Yd ?_ | refine Ye ?_ | refine Yf ?_ | refine Yg ?_ | refine Yh ?_ | refine Yi ?_ | refine Yj ?_ | refine Yk ?_ | refine Yl ?_ | refine Ym ?_ | refine Yn ?_ | refine Yo ?_ | refine Yp (h := ?_) | refine Yq ?_ | refine Yr ?_ | refine Ys ?_ | refine Zr hc (hk := ?_) | refine Zd hc (hk := ?_) | (refine Zc (ht := fun hb => ?_) (hf := fun hb => ?_) <;> (try simp at hb)) | fail) | (first | refine Zo hc (hk := ?_) | refine Zu hc (hk := ?_) | refine Ze hc (hk := ?_) | refine Zn hc (hk := ?_) | fail))
  (apply Xd 10 hc; (focus (refine Xp 0 hc (hk := ?_); refine Xp 3 hc (hk := ?_); refine Xa [1, 4] (hx := ?_); refine ⟨?_, ?_⟩; (focus (refine Xw hc (hk := ?q10); refine Xa [2, 4] (hx := ?nq10); refine ⟨?_, ?_⟩; (focus (refine Xs ([(5, 40001)]) (hW) hc (hk := ?q11); refine Xa [4] (hx := ?nq11); (focus (refine Xw hc (hk := ?q12); refine Xp 6 hc (hk := ?nq12); refine Xa [5] (hx := ?_); (focus (refine Xs ([(5, 40002)]) (hH) hc (hk := ?q13); refine Xa [7] (hx := ?nq13); (focus (refine Xw hc (hk := ?q14); refine Xp 8 hc (hk := ?nq14); refine Xa [9] (hx := ?_); (focus (refine Xw hc (hk := ?q15); refine Xz (hk := ?nq15); exact Xk [1, 2] [1, 2, 40001, 40002])))))))))); (focus (refine Xw hc (hk := ?q16); refine Xa [2] (hx := ?nq16); (focus (refine Xs ([(5, 40001)]) (hW) hc (hk := ?_); exact Xq ?q12)))))); (focus (refine Xw hc (hk := ?q17); refine Xa [1] (hx := ?nq17); (focus (refine Xw hc (hk := ?_); exact Xq ?q16)))))))
  repeat' (first | (first | refine Ya ?_ | refine Yb ?_ | refine Yc ?_ | refine Yd ?_ | refine Ye ?_ | refine Yf ?_ | refine Yg ?_ | refine Yh ?_ | refine Yi ?_ | refine Yj ?_ | refine Yk ?_ | refine Yl ?_ | refine Ym ?_ | refine Yn ?_ | refine Yo ?_ | refine Yp (h := ?_) | refine Yq ?_ | refine Yr ?_ | refine Ys ?_ | refine Zr hc (hk := ?_) | refine Zd hc (hk := ?_) | (refine Zc (ht := fun hb => ?_) (hf := fun hb => ?_) <;> (try simp at hb)) | fail) | (first | refine Zo hc (hk := ?_) | refine Zu hc (hk := ?_) | refine Ze hc (hk := ?_) | refine Zn hc (hk := ?_) | fail))
  refine ewp_loop (fun j : Nat => ⟨[(1, .bp 1 0), (2, .bp 2 0), (14, .d (int H.length)), (15, .d (int j))], [(1, .box 39 [.os 40001 I.length, .os 40002 H.length, .d (int bu), .d (int wi)]), (2, .box 39 [.d (.lit (.slice none 0 0)), .d (.lit (.slice none 0 0)), .d (int 0), .d (int 0)]), owW I, owH H]⟩) (fun j => j ≤ H.length) (fun j => H.length - j) 0 (by simp) (run_keep [1, 2, 14, 15] [1, 2, 40001, 40002] (by simp; exact Gives.mk) (by simp; exact Gives.mk)) ?_
  intro j hj
  repeat' (first | (first | refine Ya ?_ | refine Yb ?_ | refine Yc ?_ | refine Yd ?_ | refine Ye ?_ | refine Yf ?_ | refine Yg ?_ | refine Yh ?_ | refine Yi ?_ | refine Yj ?_ | refine Yk ?_ | refine Yl ?_ | refine Ym ?_ | refine Yn ?_ | refine Yo ?_ | refine Yp (h := ?_) | refine Yq ?_ | refine Yr ?_ | refine Ys ?_ | refine Zr hc (hk := ?_) | refine Zd hc (hk := ?_) | (refine Zc (ht := fun hb => ?_) (hf := fun hb => ?_) <;> (try simp at hb)) | fail) | (first | refine Zo hc (hk := ?_) | refine Zu hc (hk := ?_) | refine Ze hc (hk := ?_) | refine Zn hc (hk := ?_) | fail))
  · have hI := cloneI_ok (hstAt H j).2.2.2 (by have := h3 j (by omega); omega)
    have hset : (H.map hstCells).set j [str (H[j]?.getD hst0).1, int (H[j]?.getD hst0).2.1, tru (H[j]?.getD hst0).2.2.1, intSl (H[j]?.getD hst0).2.2.2] = H.map hstCells := set_same _ _ _ (by rw [List.getElem?_map, List.getElem?_eq_getElem (by omega)]; rfl)
    refine ewp_le (run_keep [1, 2, 3, 14, 15] [1, 2, 40001, 40002] (by simp; exact Gives.mk) (by simp; exact Gives.mk)) ?_
    (apply Xd 13 hc; (focus (refine Xp 0 hc (hk := ?_); refine Xm 2 hc (hk := ?_); refine Xp 3 hc (hk := ?_); refine Xm 5 hc (hk := ?_); refine Xa [1, 4] (hx := ?_); refine ⟨?_, ?_⟩; (focus (refine Xw hc (hk := ?qb50); refine Xa [4] (hx := ?nqb50); (focus (refine Xw hc (hk := ?qb51); refine Xa [6] (hx := ?nqb51); (focus (refine Xw hc (hk := ?qb52); refine Xp 7 hc (hk := ?nqb52); refine Xa [8] (hx := ?_); (focus (refine Xw hc (hk := ?qb53); refine Xa [9] (hx := ?nqb53); (focus (refine Xc hc (hf := hI) (hk := ?qb54); refine Xa [10] (hx := ?nqb54); (focus (refine Xw hc (hk := ?qb55); refine Xp 11 hc (hk := ?nqb55); refine Xa [12] (hx := ?_); (focus (refine Xw hc (hk := ?qb56); refine Xz (hk := ?nqb56); exact Xk [1, 2, 14, 15] [1, 2, 40001, 40002])))))))))))))); (focus (refine Xw hc (hk := ?qb57); refine Xa [1, 6] (hx := ?nqb57); refine ⟨?_, ?_⟩; (focus (refine Xw hc (hk := ?_); exact Xq ?qb51)); (focus (refine Xw hc (hk := ?qb58); refine Xp 7 hc (hk := ?nqb58); refine Xa [1, 8] (hx := ?_); refine ⟨?_, ?_⟩; (focus (refine Xw hc (hk := ?qb59); refine Xa [8] (hx := ?nqb59); (focus (refine Xw hc (hk := ?_); exact Xq ?qb53)))); (focus (refine Xw hc (hk := ?qb510); refine Xa [1, 9] (hx := ?nqb510); refine ⟨?_, ?_⟩; (focus (refine Xw hc (hk := ?_); exact Xq ?qb53)); (focus (refine Xc hc (hf := hI) (hk := ?qb511); refine Xa [1] (hx := ?nqb511); (focus (refine Xw hc (hk := ?_); exact Xq ?qb54)))))))))))))
    repeat' (first | (first | refine Ya ?_ | refine Yb ?_ | refine Yc ?_ | refine Yd ?_ | refine Ye ?_ | refine Yf ?_ | refine Yg ?_ | refine Yh ?_ | refine Yi ?_ | refine Yj ?_ | refine Yk ?_ | refine Yl ?_ | refine Ym ?_ | refine Yn ?_ | refine Yo ?_ | refine Yp (h := ?_) | refine Yq ?_ | refine Yr ?_ | refine Ys ?_ | refine Zr hc (hk := ?_) | refine Zd hc (hk := ?_) | (refine Zc (ht := fun hb => ?_) (hf := fun hb => ?_) <;> (try simp at hb)) | fail) | (first | refine Zo hc (hk := ?_) | refine Zu hc (hk := ?_) | refine Ze hc (hk := ?_) | refine Zn hc (hk := ?_) | fail))
    exact ⟨j + 1, by omega, by omega, run_back [1, 2, 14, 15] [1, 2, 40001, 40002] (by simp; exact Gives.mk) (by simp; exact Gives.mk) (by simp [hset])⟩
  · (refine run_leaveM [40001, 40002] hc (le_end rfl) (by simp; exact Gives.mk) (by simp; exact Gives.mk) (by first | (simp; done) | (simp; omega)) ?_)
    simp
end Go.Proofs.YtpmfmjgnhdfakaaGreatDoor
