/-
  FRONTIER: a frontier of one's own, the starts of one host being a slice of one's own behind a ghost (program). (WITH run_drawN.)
-/
import Derived.Test.YtnainpghpjelcaaGreatDoorFmB
import Derived.Test.YtnainpghpjelcaaGreatDoorPermR
import Derived.Test.YtnainpghpjelcaaGreatDoorFmD
import Derived.Test.YtnainpghpjelcaaGreatDoorLwGh
import Derived.Test.YtnainpghpjelcaaGreatDoorTkB
import Derived.Test.YtnainpghpjelcaaGreatDoorDel
import Derived.Test.YtnainpghpjelcaaGreatDoorFnD
set_option linter.unusedSimpArgs false
set_option linter.unusedVariables false
namespace Go.Proofs.YtnainpghpjelcaaGreatDoor
open Go.Lw Go.RowKit
set_option maxRecDepth 100000
set_option maxHeartbeats 8000000

/-- A host, its starts being any data. -/
abbrev HstD := Bs × Int × Bool × D
abbrev hdCells (x : HstD) : List D := [str x.1, int x.2.1, tru x.2.2.1, x.2.2.2]
abbrev hd0 : HstD := ([], 0, false, noSt)
def toHD (x : Hst) : HstD := (x.1, x.2.1, x.2.2.1, intSl x.2.2.2)
@[simp] theorem row_hd (o : Option HstD) : (Option.map hdCells o).getD [str [], int 0, tru false, intSl []] = [str (o.getD hd0).1, int (o.getD hd0).2.1, tru (o.getD hd0).2.2.1, (o.getD hd0).2.2.2] := by cases o <;> rfl
abbrev Gh := Option Addr × Nat
/-- The hosts, the starts of host k being that very value. -/
def hosK (H : List Hst) (k : Nat) (y : Gh) : List HstD := (H.map toHD).set k ((hstAt H k).1, (hstAt H k).2.1, (hstAt H k).2.2.1, .lit (.slice y.1 (hstAt H k).2.2.2.length y.2))
abbrev owHD (M : List HstD) : Nat × O := (40002, .own 92 4 (true, [str [], int 0, tru false, noSt]) (M.map hdCells))
abbrev owS (l : List Int) : Nat × O := (40003, .own 3 1 (true, [int 0]) (l.map fun y => [int y]))
abbrev owG (n : Nat) (y : Gh) : Nat × O := (40004, .ghost (.os 40003 n) (.slice y.1 n y.2))
theorem map_toHD (H : List Hst) : (H.map toHD).map hdCells = H.map hstCells := by rw [List.map_map]; rfl
theorem toHD_at (H : List Hst) {j : Nat} (hj : j < H.length) : (H.map toHD)[j]? = some (toHD (hstAt H j)) := by simp [hstAt, hj]
theorem hosK_other (H : List Hst) {k j : Nat} (y : Gh) (hj : j < H.length) (h : k ≠ j) : (hosK H k y)[j]? = some (toHD (hstAt H j)) := by
  unfold hosK
  rw [List.getElem?_set_ne h, toHD_at H hj]
theorem set_row (M : List HstD) {j : Nat} {x : HstD} (h : M[j]? = some x) : (M.map hdCells).set j [str (M[j]?.getD hd0).1, int (M[j]?.getD hd0).2.1, tru (M[j]?.getD hd0).2.2.1, x.2.2.2] = M.map hdCells :=
  set_same _ _ _ (by rw [List.getElem?_map, h]; rfl)
theorem frOwnK_ok (f : Frt) (k : Nat) (hk : k < f.hosts.length) (h1 : f.items.length ≤ 2000) (h2 : f.hosts.length ≤ 300) (h3 : ∀ j, j < f.hosts.length → (hstAt f.hosts j).2.2.2.length ≤ 200) :
    FnMemE Tryz.prog 56 [.d (frD f)] [] (fun _ : Gh => owV f) (fun y => [owW f.items, owHD (hosK f.hosts k y), owS (hstAt f.hosts k).2.2.2, owG (hstAt f.hosts k).2.2.2.length y]) := by
  unfold owV
  refine fnMemE Tryz.func56 rfl (by kernel_rfl) Tryz.ntmps56 _ rfl (by simp) fun C hc => ?_
  have hW := cloneW_ok f.items (by omega)
  have hH := cloneH_ok f.hosts (by omega)
  obtain ⟨I, H, bu, wi⟩ := f
  simp only at h1 h2 h3 hW hH hk ⊢
  obtain ⟨M0, hM0⟩ : ∃ M, M = H.map toHD := ⟨_, rfl⟩
  rw [← map_toHD, ← hM0] at hH
  repeat' (first | (first | refine Ya ?_ | refine Yb ?_ | refine Yc ?_ | refine Yd ?_ | refine Ye ?_ | refine Yf ?_ | refine Yg ?_ | refine Yh ?_ | refine Yi ?_ | refine Yj ?_ | refine Yk ?_ | refine Yl ?_ | refine Ym ?_ | refine Yn ?_ | refine Yo ?_ | refine Yp (h := ?_) | refine Yq ?_ | refine Yr ?_ | refine Ys ?_ | refine Zr hc (hk := ?_) | refine Zd hc (hk := ?_) | (refine Zc (ht := fun hb => ?_) (hf := fun hb => ?_) <;> (try simp at hb)) | fail) | (first | refine Zo hc (hk := ?_) | refine Zu hc (hk := ?_) | refine Ze hc (hk := ?_) | refine Zn hc (hk := ?_) | fail))
  (apply Xd 10 hc; (focus (refine Xp 0 hc (hk := ?_); refine Xp 3 hc (hk := ?_); refine run_anyR 1 [1, 2, 5, 6, 7, 8, 9] hc rfl (by kernel_rfl) rfl (by simp; exact Gives.mk) (by first | exact True.intro | omega | (simp; done) | (simp; omega) | (simp at *; omega)) (by simp) (by simp; exact Gives.mk) ?_; refine Xa [2, 4] (hx := ?_); refine ⟨?_, ?_⟩; (focus (refine Xs ([(5, 40001)]) (hW) hc (hk := ?qy10); refine run_anyR 4 [4, 5, 6, 7, 8, 9] hc rfl (by kernel_rfl) rfl (by simp; exact Gives.mk) (by first | exact True.intro | omega | (simp; done) | (simp; omega) | (simp at *; omega)) (by simp) (by simp; exact Gives.mk) ?nqy10; refine Xp 6 hc (hk := ?_); refine Xa [5] (hx := ?_); (focus (refine Xs ([(5, 40002)]) (hH) hc (hk := ?qy11); refine Xa [7] (hx := ?nqy11); (focus (refine Xw hc (hk := ?qy12); refine Xp 8 hc (hk := ?nqy12); refine Xa [9] (hx := ?_); (focus (refine Xw hc (hk := ?qy13); refine Xz (hk := ?nqy13); exact Xk [1, 2] [1, 2, 40001, 40002])))))))); (focus (refine Xw hc (hk := ?qy14); refine Xa [2] (hx := ?nqy14); (focus (refine Xs ([(5, 40001)]) (hW) hc (hk := ?qy15); refine Xp 6 hc (hk := ?nqy15); refine Xa [5] (hx := ?_); (focus (refine Xs ([(5, 40002)]) (hH) hc (hk := ?_); exact Xq ?qy11)))))))))
  repeat' (first | (first | refine Ya ?_ | refine Yb ?_ | refine Yc ?_ | refine Yd ?_ | refine Ye ?_ | refine Yf ?_ | refine Yg ?_ | refine Yh ?_ | refine Yi ?_ | refine Yj ?_ | refine Yk ?_ | refine Yl ?_ | refine Ym ?_ | refine Yn ?_ | refine Yo ?_ | refine Yp (h := ?_) | refine Yq ?_ | refine Yr ?_ | refine Ys ?_ | refine Zr hc (hk := ?_) | refine Zd hc (hk := ?_) | (refine Zc (ht := fun hb => ?_) (hf := fun hb => ?_) <;> (try simp at hb)) | fail) | (first | refine Zo hc (hk := ?_) | refine Zu hc (hk := ?_) | refine Ze hc (hk := ?_) | refine Zn hc (hk := ?_) | fail))
  refine ewp_loop (fun x : Nat × Option Gh => ⟨[(1, .bp 1 0), (2, .bp 2 0), (14, .d (int H.length)), (15, .d (int x.1))], (1, .box 25 [.os 40001 I.length, .os 40002 H.length, .d (int bu), .d (int wi)]) :: (2, .box 25 [.d (.lit (.slice none 0 0)), .d (.lit (.slice none 0 0)), .d (int 0), .d (int 0)]) :: owW I ::
      (match x.2 with | none => [owHD M0] | some y => [owHD (hosK H k y), owS (hstAt H k).2.2.2, owG (hstAt H k).2.2.2.length y])⟩)
    (fun x => match x.2 with | none => x.1 ≤ k | some _ => k < x.1 ∧ x.1 ≤ H.length) (fun x => H.length - x.1) (0, none) (Nat.zero_le _) (run_keep [1, 2, 14, 15] [1, 2, 40001, 40002] (by simp; exact Gives.mk) (by simp; exact Gives.mk)) ?_
  rintro ⟨j, yo⟩ hj
  cases yo with
  | none =>
    simp only at hj ⊢
    have hlt : j < H.length := by omega
    have hMj := toHD_at H hlt
    have hlen : (H.map toHD).length = H.length := by simp
    rw [← hM0] at hMj hlen
    have hs := h3 j hlt
    rcases Nat.lt_or_ge j k with hjk | hjk
    · have hI := cloneI_ok (hstAt H j).2.2.2 (by omega)
      have hI2 : FnOk Tryz.prog 123 [(M0[j]?.getD hd0).2.2.2] (intSl (hstAt H j).2.2.2) := by rw [hMj]; exact hI
      have hset := set_row M0 hMj
      repeat' (first | (first | refine Ya ?_ | refine Yb ?_ | refine Yc ?_ | refine Yd ?_ | refine Ye ?_ | refine Yf ?_ | refine Yg ?_ | refine Yh ?_ | refine Yi ?_ | refine Yj ?_ | refine Yk ?_ | refine Yl ?_ | refine Ym ?_ | refine Yn ?_ | refine Yo ?_ | refine Yp (h := ?_) | refine Yq ?_ | refine Yr ?_ | refine Ys ?_ | refine Zr hc (hk := ?_) | refine Zd hc (hk := ?_) | (refine Zc (ht := fun hb => ?_) (hf := fun hb => ?_) <;> (try simp at hb)) | fail) | (first | refine Zo hc (hk := ?_) | refine Zu hc (hk := ?_) | refine Ze hc (hk := ?_) | refine Zn hc (hk := ?_) | fail))
      all_goals try (exfalso; omega)
      refine ewp_le (run_keep [1, 2, 3, 14, 15] [1, 2, 40001, 40002] (by simp; exact Gives.mk) (by simp; exact Gives.mk)) ?_
      (apply Xd 13 hc; (focus (refine Xp 0 hc (hk := ?_); refine Xm 2 hc (hk := ?_); refine Xp 3 hc (hk := ?_); refine Xm 5 hc (hk := ?_); refine run_anyR 4 [4, 6, 7, 8, 9, 10, 11, 12] hc rfl (by kernel_rfl) rfl (by simp; exact Gives.mk) (by first | exact True.intro | omega | (simp; done) | (simp; omega) | (simp at *; omega)) (by simp) (by simp; exact Gives.mk) ?_; refine Xa [1, 6] (hx := ?_); refine ⟨?_, ?_⟩; (focus (refine Xw hc (hk := ?qz50); refine Xa [6] (hx := ?nqz50); (focus (refine Xw hc (hk := ?qz51); refine Xp 7 hc (hk := ?nqz51); refine run_anyR 8 [8, 9, 10, 11, 12] hc rfl (by kernel_rfl) rfl (by simp; exact Gives.mk) (by first | exact True.intro | omega | (simp; done) | (simp; omega) | (simp at *; omega)) (by simp) (by simp; exact Gives.mk) ?_; refine Xa [9] (hx := ?_); (focus (refine Xc hc (hf := hI2) (hk := ?qz52); refine Xa [10] (hx := ?nqz52); (focus (refine Xw hc (hk := ?qz53); refine Xp 11 hc (hk := ?nqz53); refine Xa [12] (hx := ?_); (focus (refine Xw hc (hk := ?qz54); refine Xz (hk := ?nqz54); exact Xk [1, 2, 14, 15] [1, 2, 40001, 40002])))))))))); (focus (refine Xw hc (hk := ?qz55); refine Xp 7 hc (hk := ?nqz55); refine run_anyR 8 [8, 9, 10, 11, 12] hc rfl (by kernel_rfl) rfl (by simp; exact Gives.mk) (by first | exact True.intro | omega | (simp; done) | (simp; omega) | (simp at *; omega)) (by simp) (by simp; exact Gives.mk) ?_; refine Xa [1, 9] (hx := ?_); refine ⟨?_, ?_⟩; (focus (refine Xw hc (hk := ?qz56); refine Xa [9] (hx := ?nqz56); (focus (refine Xc hc (hf := hI2) (hk := ?_); exact Xq ?qz52)))); (focus (refine Xc hc (hf := hI2) (hk := ?qz57); refine run_anyR 1 [1, 10, 11, 12] hc rfl (by kernel_rfl) rfl (by simp; exact Gives.mk) (by first | exact True.intro | omega | (simp; done) | (simp; omega) | (simp at *; omega)) (by simp) (by simp; exact Gives.mk) ?nqz57; refine Xa [10] (hx := ?_); (focus (refine Xw hc (hk := ?_); exact Xq ?qz53)))))))))
      repeat' (first | (first | refine Ya ?_ | refine Yb ?_ | refine Yc ?_ | refine Yd ?_ | refine Ye ?_ | refine Yf ?_ | refine Yg ?_ | refine Yh ?_ | refine Yi ?_ | refine Yj ?_ | refine Yk ?_ | refine Yl ?_ | refine Ym ?_ | refine Yn ?_ | refine Yo ?_ | refine Yp (h := ?_) | refine Yq ?_ | refine Yr ?_ | refine Ys ?_ | refine Zr hc (hk := ?_) | refine Zd hc (hk := ?_) | (refine Zc (ht := fun hb => ?_) (hf := fun hb => ?_) <;> (try simp at hb)) | fail) | (first | refine Zo hc (hk := ?_) | refine Zu hc (hk := ?_) | refine Ze hc (hk := ?_) | refine Zn hc (hk := ?_) | fail))
      refine ⟨(j + 1, none), by simp only; omega, by simp only; omega, run_back [1, 2, 14, 15] [1, 2, 40001, 40002] (by simp; exact Gives.mk) (by simp; exact Gives.mk) ?_⟩
      simp only [toHD] at hset
      simp [hset]
    · obtain rfl : j = k := by omega
      have hM := cloneI_m (hstAt H j).2.2.2 (by omega)
      have hM : FnMem Tryz.prog 123 [.d ((M0[j]?.getD hd0).2.2.2)] [] (.os 5 (hstAt H j).2.2.2.length) [(5, .own 3 1 (true, [int 0]) ((hstAt H j).2.2.2.map fun y => [int y]))] := by rw [hMj]; exact hM
      have hset : ∀ d : D, (M0.map hdCells).set j [str (M0[j]?.getD hd0).1, int (M0[j]?.getD hd0).2.1, tru (M0[j]?.getD hd0).2.2.1, d] = (M0.set j ((hstAt H j).1, (hstAt H j).2.1, (hstAt H j).2.2.1, d)).map hdCells := fun d => by
        rw [List.map_set, hMj]
        rfl
      unfold hosK
      rw [← hM0]
      repeat' (first | (first | refine Ya ?_ | refine Yb ?_ | refine Yc ?_ | refine Yd ?_ | refine Ye ?_ | refine Yf ?_ | refine Yg ?_ | refine Yh ?_ | refine Yi ?_ | refine Yj ?_ | refine Yk ?_ | refine Yl ?_ | refine Ym ?_ | refine Yn ?_ | refine Yo ?_ | refine Yp (h := ?_) | refine Yq ?_ | refine Yr ?_ | refine Ys ?_ | refine Zr hc (hk := ?_) | refine Zd hc (hk := ?_) | (refine Zc (ht := fun hb => ?_) (hf := fun hb => ?_) <;> (try simp at hb)) | fail) | (first | refine Zo hc (hk := ?_) | refine Zu hc (hk := ?_) | refine Ze hc (hk := ?_) | refine Zn hc (hk := ?_) | fail))
      all_goals try (exfalso; omega)
      refine ewp_le (run_keep [1, 2, 3, 14, 15] [1, 2, 40001, 40002] (by simp; exact Gives.mk) (by simp; exact Gives.mk)) ?_
      (apply run_drawAnyQ 13 hc (by kernel_rfl) (by rfl); (focus (refine Xp 0 hc (hk := ?_); refine Xm 2 hc (hk := ?_); refine Xp 3 hc (hk := ?_); refine Xm 5 hc (hk := ?_); refine run_anyR 4 [4, 6, 7, 8, 9, 10, 11, 12] hc rfl (by kernel_rfl) rfl (by simp; exact Gives.mk) (by first | exact True.intro | omega | (simp; done) | (simp; omega) | (simp at *; omega)) (by simp) (by simp; exact Gives.mk) ?_; refine Xa [1, 6] (hx := ?_); refine ⟨?_, ?_⟩; (focus (refine Xw hc (hk := ?qa50); refine Xa [6] (hx := ?nqa50); (focus (refine Xw hc (hk := ?qa51); refine Xp 7 hc (hk := ?nqa51); refine run_anyR 8 [8, 9, 10, 11, 12] hc rfl (by kernel_rfl) rfl (by simp; exact Gives.mk) (by first | exact True.intro | omega | (simp; done) | (simp; omega) | (simp at *; omega)) (by simp) (by simp; exact Gives.mk) ?_; refine Xa [9] (hx := ?_); (focus (refine Xs ([(5, 40003)]) (hM) hc (hk := ?qa52); refine Xa [10] (hx := ?nqa52); (focus (refine Xw hc (hk := ?qa53); refine Xp 11 hc (hk := ?nqa53); refine anyW_ghost (id := 40003) (n := (hstAt H j).2.2.2.length) 40004 27 (by simp) (by decide) (by simp) (by simp) (by decide) (fun A cap => ?_); refine Xa [12] (hx := ?_); (focus (refine Xw hc (hk := ?qlast); refine Xz (hk := ?_); (repeat' (first | (first | refine Ya ?_ | refine Yb ?_ | refine Yc ?_ | refine Yd ?_ | refine Ye ?_ | refine Yf ?_ | refine Yg ?_ | refine Yh ?_ | refine Yi ?_ | refine Yj ?_ | refine Yk ?_ | refine Yl ?_ | refine Ym ?_ | refine Yn ?_ | refine Yo ?_ | refine Yp (h := ?_) | refine Yq ?_ | refine Yr ?_ | refine Ys ?_ | refine Zr hc (hk := ?_) | refine Zd hc (hk := ?_) | (refine Zc (ht := fun hb => ?_) (hf := fun hb => ?_) <;> (try simp at hb)) | fail) | (first | refine Zo hc (hk := ?_) | refine Zu hc (hk := ?_) | refine Ze hc (hk := ?_) | refine Zn hc (hk := ?_) | fail))); refine ⟨(j + 1, some (A, cap)), by simp only; omega, by simp only; omega, run_back [1, 2, 14, 15] [1, 2, 40001, 40002, 40003, 40004] (by simp; exact Gives.mk) (by simp; exact Gives.mk) ?_⟩; simp [hset])))))))))); (focus (refine Xw hc (hk := ?qa55); refine Xp 7 hc (hk := ?nqa55); refine run_anyR 8 [8, 9, 10, 11, 12] hc rfl (by kernel_rfl) rfl (by simp; exact Gives.mk) (by first | exact True.intro | omega | (simp; done) | (simp; omega) | (simp at *; omega)) (by simp) (by simp; exact Gives.mk) ?_; refine Xa [1, 9] (hx := ?_); refine ⟨?_, ?_⟩; (focus (refine Xw hc (hk := ?qa56); refine Xa [9] (hx := ?nqa56); (focus (refine Xs ([(5, 40003)]) (hM) hc (hk := ?_); exact Xq ?qa52)))); (focus (refine Xs ([(5, 40003)]) (hM) hc (hk := ?qa57); refine run_anyR 1 [1, 10, 11, 12] hc rfl (by kernel_rfl) rfl (by simp; exact Gives.mk) (by first | exact True.intro | omega | (simp; done) | (simp; omega) | (simp at *; omega)) (by simp) (by simp; exact Gives.mk) ?nqa57; refine Xa [10] (hx := ?_); (focus (refine Xw hc (hk := ?_); exact Xq ?qa53)))))))))
  | some y =>
    simp only at hj ⊢
    by_cases hlt : j < H.length
    · have hMj := hosK_other H y hlt (show k ≠ j by omega)
      have hlen : (hosK H k y).length = H.length := by simp [hosK]
      have hs := h3 j hlt
      have hI := cloneI_ok (hstAt H j).2.2.2 (by omega)
      have hI2 : FnOk Tryz.prog 123 [((hosK H k y)[j]?.getD hd0).2.2.2] (intSl (hstAt H j).2.2.2) := by rw [hMj]; exact hI
      have hset := set_row (hosK H k y) hMj
      generalize hM : hosK H k y = M at hMj hI2 hset hlen ⊢
      repeat' (first | (first | refine Ya ?_ | refine Yb ?_ | refine Yc ?_ | refine Yd ?_ | refine Ye ?_ | refine Yf ?_ | refine Yg ?_ | refine Yh ?_ | refine Yi ?_ | refine Yj ?_ | refine Yk ?_ | refine Yl ?_ | refine Ym ?_ | refine Yn ?_ | refine Yo ?_ | refine Yp (h := ?_) | refine Yq ?_ | refine Yr ?_ | refine Ys ?_ | refine Zr hc (hk := ?_) | refine Zd hc (hk := ?_) | (refine Zc (ht := fun hb => ?_) (hf := fun hb => ?_) <;> (try simp at hb)) | fail) | (first | refine Zo hc (hk := ?_) | refine Zu hc (hk := ?_) | refine Ze hc (hk := ?_) | refine Zn hc (hk := ?_) | fail))
      all_goals try (exfalso; omega)
      refine ewp_le (run_keep [1, 2, 3, 14, 15] [1, 2, 40001, 40002, 40003, 40004] (by simp; exact Gives.mk) (by simp; exact Gives.mk)) ?_
      (apply Xd 13 hc; (focus (refine Xp 0 hc (hk := ?_); refine Xm 2 hc (hk := ?_); refine Xp 3 hc (hk := ?_); refine Xm 5 hc (hk := ?_); refine run_anyR 4 [4, 6, 7, 8, 9, 10, 11, 12] hc rfl (by kernel_rfl) rfl (by simp; exact Gives.mk) (by first | exact True.intro | omega | (simp; done) | (simp; omega) | (simp at *; omega)) (by simp) (by simp; exact Gives.mk) ?_; refine Xa [1, 6] (hx := ?_); refine ⟨?_, ?_⟩; (focus (refine Xw hc (hk := ?qx50); refine Xa [6] (hx := ?nqx50); (focus (refine Xw hc (hk := ?qx51); refine Xp 7 hc (hk := ?nqx51); refine run_anyR 8 [8, 9, 10, 11, 12] hc rfl (by kernel_rfl) rfl (by simp; exact Gives.mk) (by first | exact True.intro | omega | (simp; done) | (simp; omega) | (simp at *; omega)) (by simp) (by simp; exact Gives.mk) ?_; refine Xa [9] (hx := ?_); (focus (refine Xc hc (hf := hI2) (hk := ?qx52); refine Xa [10] (hx := ?nqx52); (focus (refine Xw hc (hk := ?qx53); refine Xp 11 hc (hk := ?nqx53); refine Xa [12] (hx := ?_); (focus (refine Xw hc (hk := ?qx54); refine Xz (hk := ?nqx54); exact Xk [1, 2, 14, 15] [1, 2, 40001, 40002, 40003, 40004])))))))))); (focus (refine Xw hc (hk := ?qx55); refine Xp 7 hc (hk := ?nqx55); refine run_anyR 8 [8, 9, 10, 11, 12] hc rfl (by kernel_rfl) rfl (by simp; exact Gives.mk) (by first | exact True.intro | omega | (simp; done) | (simp; omega) | (simp at *; omega)) (by simp) (by simp; exact Gives.mk) ?_; refine Xa [1, 9] (hx := ?_); refine ⟨?_, ?_⟩; (focus (refine Xw hc (hk := ?qx56); refine Xa [9] (hx := ?nqx56); (focus (refine Xc hc (hf := hI2) (hk := ?_); exact Xq ?qx52)))); (focus (refine Xc hc (hf := hI2) (hk := ?qx57); refine run_anyR 1 [1, 10, 11, 12] hc rfl (by kernel_rfl) rfl (by simp; exact Gives.mk) (by first | exact True.intro | omega | (simp; done) | (simp; omega) | (simp at *; omega)) (by simp) (by simp; exact Gives.mk) ?nqx57; refine Xa [10] (hx := ?_); (focus (refine Xw hc (hk := ?_); exact Xq ?qx53)))))))))
      repeat' (first | (first | refine Ya ?_ | refine Yb ?_ | refine Yc ?_ | refine Yd ?_ | refine Ye ?_ | refine Yf ?_ | refine Yg ?_ | refine Yh ?_ | refine Yi ?_ | refine Yj ?_ | refine Yk ?_ | refine Yl ?_ | refine Ym ?_ | refine Yn ?_ | refine Yo ?_ | refine Yp (h := ?_) | refine Yq ?_ | refine Yr ?_ | refine Ys ?_ | refine Zr hc (hk := ?_) | refine Zd hc (hk := ?_) | (refine Zc (ht := fun hb => ?_) (hf := fun hb => ?_) <;> (try simp at hb)) | fail) | (first | refine Zo hc (hk := ?_) | refine Zu hc (hk := ?_) | refine Ze hc (hk := ?_) | refine Zn hc (hk := ?_) | fail))
      refine ⟨(j + 1, some y), by simp only; omega, by simp only; omega, run_back [1, 2, 14, 15] [1, 2, 40001, 40002, 40003, 40004] (by simp; exact Gives.mk) (by simp; exact Gives.mk) ?_⟩
      simp only [toHD] at hset
      simp [hset, hM]
    · obtain rfl : j = H.length := by omega
      repeat' (first | (first | refine Ya ?_ | refine Yb ?_ | refine Yc ?_ | refine Yd ?_ | refine Ye ?_ | refine Yf ?_ | refine Yg ?_ | refine Yh ?_ | refine Yi ?_ | refine Yj ?_ | refine Yk ?_ | refine Yl ?_ | refine Ym ?_ | refine Yn ?_ | refine Yo ?_ | refine Yp (h := ?_) | refine Yq ?_ | refine Yr ?_ | refine Ys ?_ | refine Zr hc (hk := ?_) | refine Zd hc (hk := ?_) | (refine Zc (ht := fun hb => ?_) (hf := fun hb => ?_) <;> (try simp at hb)) | fail) | (first | refine Zo hc (hk := ?_) | refine Zu hc (hk := ?_) | refine Ze hc (hk := ?_) | refine Zn hc (hk := ?_) | fail))
      all_goals try (exfalso; omega)
      refine ⟨y, ?_⟩
      (refine run_leaveM [40001, 40002, 40003, 40004] hc (le_end rfl) (by simp; exact Gives.mk) (by simp; exact Gives.mk) (by first | (simp; done) | (simp; omega)) ?_)
      simp
end Go.Proofs.YtnainpghpjelcaaGreatDoor
/-
  FRONTIER: Take: the starts that are too old go (program). (WITH run_drawN.)
-/
set_option linter.unusedSimpArgs false
set_option linter.unusedVariables false
namespace Go.Proofs.YtnainpghpjelcaaGreatDoor
open Go.Lw Go.RowKit
set_option maxRecDepth 100000
set_option maxHeartbeats 8000000

/-- The frontier of one's own that the closure looks at. -/
abbrev tkBx (n m : Nat) (bu wi : Int) : Nat × O := (100000, .box 25 [.os 100001 n, .os 100002 m, .d (int bu), .d (int wi)])
abbrev tkW2 (I : List Wnt) : Nat × O := (100001, .own 35 3 (true, [str [], int 0, int 0]) (I.map wntCells))
abbrev tkH2 (M : List HstD) : Nat × O := (100002, .own 92 4 (true, [str [], int 0, tru false, noSt]) (M.map hdCells))
abbrev tkClo (t : Int) : V := .vclo (.func 111) [.d (.ip [int t] 0), .bp 100000 0]
theorem takeClo_ok (x t bu wi : Int) (I : List Wnt) (M : List HstD) (ht : okM t) (hw : 1 ≤ wi ∧ wi ≤ 100000000) :
    FnMem Tryz.prog 111 [.d (int x), .d (.ip [int t] 0), .bp 100000 0] [tkBx I.length M.length bu wi, tkW2 I, tkH2 M] (.d (tru (!decide (t - wi < x)))) [tkBx I.length M.length bu wi, tkW2 I, tkH2 M] := by
  refine fnMem Tryz.func111 rfl (by kernel_rfl) Tryz.ntmps111 _ rfl (by simp) fun C hc => ?_
  obtain ⟨t1, t2⟩ := ht
  have e : (!decide (t - wi < x)) = decide (x ≤ t - wi) := by rw [Bool.eq_iff_iff]; simp
  rw [e]
  repeat' (first | (first | refine Ya ?_ | refine Yb ?_ | refine Yc ?_ | refine Yd ?_ | refine Ye ?_ | refine Yf ?_ | refine Yg ?_ | refine Yh ?_ | refine Yi ?_ | refine Yj ?_ | refine Yk ?_ | refine Yl ?_ | refine Ym ?_ | refine Yn ?_ | refine Yo ?_ | refine Yp (h := ?_) | refine Yq ?_ | refine Yr ?_ | refine Ys ?_ | refine Zr hc (hk := ?_) | refine Zd hc (hk := ?_) | (refine Zc (ht := fun hb => ?_) (hf := fun hb => ?_) <;> (try simp at hb)) | fail) | (first | refine Zo hc (hk := ?_) | refine Zu hc (hk := ?_) | refine Ze hc (hk := ?_) | refine Zn hc (hk := ?_) | fail))
  (refine run_leaveM [100000, 100001, 100002] hc (le_end rfl) (by simp; exact Gives.mk) (by simp; exact Gives.mk) (by first | (simp; done) | (simp; omega)) ?_)
  simp
def firstI (l : List Int) (lo : Int) (j : Nat) : Int := if j < l.length then (if decide (lo < l[j]?.getD 0) = false then (j : Int) else firstI l lo (j + 1)) else -1
termination_by l.length - j
theorem firstI_spec (l : List Int) (lo : Int) (j : Nat) : (firstI l lo j = -1 ∧ ∀ i, j ≤ i → i < l.length → lo < l[i]?.getD 0) ∨ (∃ i : Nat, firstI l lo j = i ∧ j ≤ i ∧ i < l.length ∧ ¬ lo < l[i]?.getD 0 ∧ ∀ k, j ≤ k → k < i → lo < l[k]?.getD 0) := by
  rw [firstI]
  split
  · rename_i hj
    by_cases h : lo < l[j]?.getD 0
    · rw [if_neg (by simp [h])]
      rcases firstI_spec l lo (j + 1) with ⟨h1, h2⟩ | ⟨i, h1, h2, h3, h4, h5⟩
      · refine .inl ⟨h1, fun i hi hl => ?_⟩
        rcases Nat.lt_or_ge j i with h6 | h6
        · exact h2 i h6 hl
        · obtain rfl : i = j := by omega
          exact h
      · refine .inr ⟨i, h1, by omega, h3, h4, fun k h6 h7 => ?_⟩
        rcases Nat.lt_or_ge j k with h8 | h8
        · exact h5 k h8 h7
        · obtain rfl : k = j := by omega
          exact h
    · rw [if_pos (by simp [h])]
      exact .inr ⟨j, rfl, Nat.le_refl _, hj, h, fun k h1 h2 => by omega⟩
  · exact .inl ⟨rfl, fun i h1 h2 => by omega⟩
termination_by l.length - j
theorem takeI_next {l : List Int} (p : Int → Bool) {j : Nat} (hj : j < l.length) : (l.take (j + 1)).filter p = (l.take j).filter p ++ if p (l[j]?.getD 0) = true then [l[j]?.getD 0] else [] := by
  rw [List.take_succ_eq_append_getElem hj, List.filter_append]
  simp only [List.getElem?_eq_getElem hj, Option.getD_some, List.filter_cons, List.filter_nil]
abbrev ownI (l : List Int) : Nat × O := (100003, .own 3 1 (true, [int 0]) (l.map fun y => [int y]))
@[simp] theorem row_i (o : Option Int) : (Option.map (fun y => [int y]) o).getD [int 0] = [int (o.getD 0)] := by cases o <;> rfl
theorem idxI_ok (l : List Int) (t bu wi : Int) (I : List Wnt) (M : List HstD) (ht : okM t) (hw : 1 ≤ wi ∧ wi ≤ 100000000) (hl : l.length ≤ 200) :
    FnMem Tryz.prog 164 [.os 100003 l.length, tkClo t] [ownI l, tkBx I.length M.length bu wi, tkW2 I, tkH2 M] (.d (int (firstI l (t - wi) 0))) [ownI l, tkBx I.length M.length bu wi, tkW2 I, tkH2 M] := by
  refine fnMem Tryz.func164 rfl (by kernel_rfl) Tryz.ntmps164 _ rfl (by simp) fun C hc => ?_
  repeat' (first | (first | refine Ya ?_ | refine Yb ?_ | refine Yc ?_ | refine Yd ?_ | refine Ye ?_ | refine Yf ?_ | refine Yg ?_ | refine Yh ?_ | refine Yi ?_ | refine Yj ?_ | refine Yk ?_ | refine Yl ?_ | refine Ym ?_ | refine Yn ?_ | refine Yo ?_ | refine Yp (h := ?_) | refine Yq ?_ | refine Yr ?_ | refine Ys ?_ | refine Zr hc (hk := ?_) | refine Zd hc (hk := ?_) | (refine Zc (ht := fun hb => ?_) (hf := fun hb => ?_) <;> (try simp at hb)) | fail) | (first | refine Zo hc (hk := ?_) | refine Zu hc (hk := ?_) | refine Ze hc (hk := ?_) | refine Zn hc (hk := ?_) | fail))
  refine ewp_loop (fun j : Nat => ⟨[(0, .os 100003 l.length), (1, tkClo t), (7, .d (int l.length)), (8, .d (int j))], [ownI l, tkBx I.length M.length bu wi, tkW2 I, tkH2 M]⟩) (fun j => j ≤ l.length ∧ firstI l (t - wi) 0 = firstI l (t - wi) j) (fun j => l.length - j) 0 (by simp) (run_keep [0, 1, 7, 8] [100003, 100000, 100001, 100002] (by simp; exact Gives.mk) (by simp; exact Gives.mk)) ?_
  rintro j ⟨hj, hA⟩
  have hst : firstI l (t - wi) j = if j < l.length then (if decide (t - wi < l[j]?.getD 0) = false then (j : Int) else firstI l (t - wi) (j + 1)) else -1 := by rw [firstI]
  have hC := takeClo_ok (l[j]?.getD 0) t bu wi I M ht hw
  by_cases hlt : j < l.length
  · generalize decide (t - wi < l[j]?.getD 0) = b at hC hst
    repeat' (first | (first | refine Ya ?_ | refine Yb ?_ | refine Yc ?_ | refine Yd ?_ | refine Ye ?_ | refine Yf ?_ | refine Yg ?_ | refine Yh ?_ | refine Yi ?_ | refine Yj ?_ | refine Yk ?_ | refine Yl ?_ | refine Ym ?_ | refine Yn ?_ | refine Yo ?_ | refine Yp (h := ?_) | refine Yq ?_ | refine Yr ?_ | refine Ys ?_ | refine Zr hc (hk := ?_) | refine Zd hc (hk := ?_) | (refine Zc (ht := fun hb => ?_) (hf := fun hb => ?_) <;> (try simp at hb)) | fail) | ((first | refine run_callM ([(100000, 100000), (100001, 100001), (100002, 100002)]) (hC) hc (by simp; exact Gives.mk) (by simp; exact Gives.mk) (by simp; exact Gives.mk) (by simp; exact Gives.mk) (by simp; exact Gives.mk) rfl (by simp; exact Gives.mk) (by simp; exact Gives.mk) rfl (by simp) (by simp) (by simp; exact Gives.mk) (by simp; exact Gives.mk) ?_ | fail)) | (first | refine Zo hc (hk := ?_) | refine Zu hc (hk := ?_) | refine Ze hc (hk := ?_) | refine Zn hc (hk := ?_) | fail))
    all_goals try contradiction
    all_goals try (exfalso; omega)
    · rw [hA, hst, if_pos hlt, if_pos (by simpa using hb)]
      (refine run_leaveM [100003, 100000, 100001, 100002] hc (le_end rfl) (by simp; exact Gives.mk) (by simp; exact Gives.mk) (by first | (simp; done) | (simp; omega)) ?_)
      simp
    · exact ⟨j + 1, ⟨by omega, by rw [hA, hst, if_pos hlt, if_neg (by simpa using hb)]⟩, by omega, run_back [0, 1, 7, 8] [100003, 100000, 100001, 100002] (by simp; exact Gives.mk) (by simp; exact Gives.mk) (by simp)⟩
  · repeat' (first | (first | refine Ya ?_ | refine Yb ?_ | refine Yc ?_ | refine Yd ?_ | refine Ye ?_ | refine Yf ?_ | refine Yg ?_ | refine Yh ?_ | refine Yi ?_ | refine Yj ?_ | refine Yk ?_ | refine Yl ?_ | refine Ym ?_ | refine Yn ?_ | refine Yo ?_ | refine Yp (h := ?_) | refine Yq ?_ | refine Yr ?_ | refine Ys ?_ | refine Zr hc (hk := ?_) | refine Zd hc (hk := ?_) | (refine Zc (ht := fun hb => ?_) (hf := fun hb => ?_) <;> (try simp at hb)) | fail) | (first | refine Zo hc (hk := ?_) | refine Zu hc (hk := ?_) | refine Ze hc (hk := ?_) | refine Zn hc (hk := ?_) | fail))
    all_goals try contradiction
    all_goals try (exfalso; omega)
    rw [hA, hst, if_neg hlt]
    (refine run_leaveM [100003, 100000, 100001, 100002] hc (le_end rfl) (by simp; exact Gives.mk) (by simp; exact Gives.mk) (by first | (simp; done) | (simp; omega)) ?_)
    simp
/-- The starts within the window. -/
abbrev stK (l : List Int) (lo : Int) : List Int := l.filter fun x => decide (lo < x)
theorem delI_ok (l : List Int) (t bu wi : Int) (I : List Wnt) (M : List HstD) (ht : okM t) (hw : 1 ≤ wi ∧ wi ≤ 100000000) (hl : l.length ≤ 200) :
    FnMem Tryz.prog 110 [.os 100003 l.length, tkClo t] [ownI l, tkBx I.length M.length bu wi, tkW2 I, tkH2 M]
      (.os 100003 (stK l (t - wi)).length) [(100003, .own 3 1 (true, [int 0]) (((stK l (t - wi)).map fun y => [int y]) ++ List.replicate (l.length - (stK l (t - wi)).length) [int 0])), tkBx I.length M.length bu wi, tkW2 I, tkH2 M] := by
  refine fnMem Tryz.func110 rfl (by kernel_rfl) Tryz.ntmps110 _ rfl (by simp) fun C hc => ?_
  have hI := idxI_ok l t bu wi I M ht hw hl
  rcases firstI_spec l (t - wi) 0 with ⟨h1, h2⟩ | ⟨i0, h1, _, h3, h4, h5⟩
  · have hK : stK l (t - wi) = l := List.filter_eq_self.2 fun x hx => by
      obtain ⟨j, hj⟩ := List.mem_iff_getElem?.1 hx
      have := h2 j (Nat.zero_le _) (List.getElem?_eq_some_iff.1 hj).1
      simpa [hj] using this
    rw [hK]
    rw [h1] at hI
    repeat' (first | (first | refine Ya ?_ | refine Yb ?_ | refine Yc ?_ | refine Yd ?_ | refine Ye ?_ | refine Yf ?_ | refine Yg ?_ | refine Yh ?_ | refine Yi ?_ | refine Yj ?_ | refine Yk ?_ | refine Yl ?_ | refine Ym ?_ | refine Yn ?_ | refine Yo ?_ | refine Yp (h := ?_) | refine Yq ?_ | refine Yr ?_ | refine Ys ?_ | refine Zr hc (hk := ?_) | refine Zd hc (hk := ?_) | (refine Zc (ht := fun hb => ?_) (hf := fun hb => ?_) <;> (try simp at hb)) | fail) | ((first | refine run_callM ([(100003, 100003), (100000, 100000), (100001, 100001), (100002, 100002)]) (hI) hc (by simp; exact Gives.mk) (by simp; exact Gives.mk) (by simp; exact Gives.mk) (by simp; exact Gives.mk) (by simp; exact Gives.mk) rfl (by simp; exact Gives.mk) (by simp; exact Gives.mk) rfl (by simp) (by simp) (by simp; exact Gives.mk) (by simp; exact Gives.mk) ?_ | fail)) | (first | refine Zo hc (hk := ?_) | refine Zu hc (hk := ?_) | refine Ze hc (hk := ?_) | refine Zn hc (hk := ?_) | fail))
    all_goals try contradiction
    refine run_leaveM [100003, 100000, 100001, 100002] hc (le_end rfl) (by simp; exact Gives.mk) (by simp; exact Gives.mk) (by simp) (by simp)
  · rw [h1] at hI
    repeat' (first | (first | refine Ya ?_ | refine Yb ?_ | refine Yc ?_ | refine Yd ?_ | refine Ye ?_ | refine Yf ?_ | refine Yg ?_ | refine Yh ?_ | refine Yi ?_ | refine Yj ?_ | refine Yk ?_ | refine Yl ?_ | refine Ym ?_ | refine Yn ?_ | refine Yo ?_ | refine Yp (h := ?_) | refine Yq ?_ | refine Yr ?_ | refine Ys ?_ | refine Zr hc (hk := ?_) | refine Zd hc (hk := ?_) | (refine Zc (ht := fun hb => ?_) (hf := fun hb => ?_) <;> (try simp at hb)) | fail) | ((first | refine run_callM ([(100003, 100003), (100000, 100000), (100001, 100001), (100002, 100002)]) (hI) hc (by simp; exact Gives.mk) (by simp; exact Gives.mk) (by simp; exact Gives.mk) (by simp; exact Gives.mk) (by simp; exact Gives.mk) rfl (by simp; exact Gives.mk) (by simp; exact Gives.mk) rfl (by simp) (by simp) (by simp; exact Gives.mk) (by simp; exact Gives.mk) ?_ | fail)) | (first | refine Zo hc (hk := ?_) | refine Zu hc (hk := ?_) | refine Ze hc (hk := ?_) | refine Zn hc (hk := ?_) | fail))
    all_goals try contradiction
    all_goals try (exfalso; omega)
    refine ewp_loop (fun x : Nat × Nat × List Int => ⟨[(0, .os 100003 l.length), (1, tkClo t), (5, .d (int x.1)), (6, .d (int x.2.1))], [ownI x.2.2, tkBx I.length M.length bu wi, tkW2 I, tkH2 M]⟩)
      (fun x => x.2.2.length = l.length ∧ x.1 < x.2.1 ∧ x.2.1 ≤ l.length ∧ x.2.2.take x.1 = stK (l.take x.2.1) (t - wi) ∧ x.2.2.drop x.2.1 = l.drop x.2.1) (fun x => l.length - x.2.1) (i0, i0 + 1, l)
      ⟨rfl, by simp, by simp only; omega, ?_, rfl⟩ (run_keep [0, 1, 5, 6] [100003, 100000, 100001, 100002] (by simp; exact Gives.mk) (by simp; exact Gives.mk)) ?_
    · simp only
      rw [stK, takeI_next _ h3, if_neg (by simpa using h4), List.append_nil]
      refine (List.filter_eq_self.2 fun x hx => ?_).symm
      obtain ⟨j, hj⟩ := List.mem_iff_getElem?.1 hx
      rw [List.getElem?_take] at hj
      split at hj
      · rename_i hji
        have := h5 j (Nat.zero_le _) hji
        simpa [hj] using this
      · cases hj
    rintro ⟨i, j, L⟩ ⟨k1, k2, k3, k4, k5⟩
    simp only at k1 k2 k3 k4 k5 ⊢
    have hil : i = (stK (l.take j) (t - wi)).length := by rw [← k4]; simp; omega
    by_cases hj : j < l.length
    · have hx : L[j]?.getD 0 = l[j]?.getD 0 := by
        have e := congrArg (fun l => l[0]?) k5
        simp only [List.getElem?_drop, Nat.add_zero] at e
        rw [e]
      have hC := takeClo_ok (L[j]?.getD 0) t bu wi I M ht hw
      have hnx := takeI_next (fun x => decide (t - wi < x)) hj
      have hdr : ∀ M : List Int, M.drop j = l.drop j → M.drop (j + 1) = l.drop (j + 1) := fun M e => by
        have := congrArg (List.drop 1) e
        simpa [List.drop_drop] using this
      rw [← hx] at hnx
      change stK (l.take (j + 1)) (t - wi) = stK (l.take j) (t - wi) ++ _ at hnx
      generalize hkb : decide (t - wi < L[j]?.getD 0) = b at hC hnx
      repeat' (first | (first | refine Ya ?_ | refine Yb ?_ | refine Yc ?_ | refine Yd ?_ | refine Ye ?_ | refine Yf ?_ | refine Yg ?_ | refine Yh ?_ | refine Yi ?_ | refine Yj ?_ | refine Yk ?_ | refine Yl ?_ | refine Ym ?_ | refine Yn ?_ | refine Yo ?_ | refine Yp (h := ?_) | refine Yq ?_ | refine Yr ?_ | refine Ys ?_ | refine Zr hc (hk := ?_) | refine Zd hc (hk := ?_) | (refine Zc (ht := fun hb => ?_) (hf := fun hb => ?_) <;> (try simp at hb)) | fail) | ((first | refine run_callM ([(100000, 100000), (100001, 100001), (100002, 100002)]) (hC) hc (by simp; exact Gives.mk) (by simp; exact Gives.mk) (by simp; exact Gives.mk) (by simp; exact Gives.mk) (by simp; exact Gives.mk) rfl (by simp; exact Gives.mk) (by simp; exact Gives.mk) rfl (by simp) (by simp) (by simp; exact Gives.mk) (by simp; exact Gives.mk) ?_ | fail)) | (first | refine Zo hc (hk := ?_) | refine Zu hc (hk := ?_) | refine Ze hc (hk := ?_) | refine Zn hc (hk := ?_) | fail))
      all_goals try contradiction
      all_goals try (exfalso; omega)
      · refine ⟨(i + 1, j + 1, L.set i (L[j]?.getD 0)), ⟨by simpa using k1, by simp only; omega, by simp only; omega, ?_, ?_⟩, by simp only; omega, run_back [0, 1, 5, 6] [100003, 100000, 100001, 100002] (by simp; exact Gives.mk) (by simp; exact Gives.mk) (by simp)⟩
        · simp only
          rw [hnx, if_pos (by simpa using hb), ← k4]
          rw [List.take_succ_eq_append_getElem (by simp; omega), List.take_set_of_le (Nat.le_refl _)]
          simp
        · simp only
          rw [List.drop_set_of_lt (by omega)]
          exact hdr L k5
      · refine ⟨(i, j + 1, L), ⟨k1, by simp only; omega, by simp only; omega, ?_, hdr L k5⟩, by simp only; omega, run_back [0, 1, 5, 6] [100003, 100000, 100001, 100002] (by simp; exact Gives.mk) (by simp; exact Gives.mk) (by simp)⟩
        simp only
        rw [hnx, if_neg (by simpa using hb), List.append_nil, ← k4]
    · obtain rfl : j = l.length := by omega
      rw [List.take_length] at k4 hil
      have hrow : (L.map fun y => [int y]).take i = (stK l (t - wi)).map fun y => [int y] := by rw [← k4, List.map_take]
      repeat' (first | (first | refine Ya ?_ | refine Yb ?_ | refine Yc ?_ | refine Yd ?_ | refine Ye ?_ | refine Yf ?_ | refine Yg ?_ | refine Yh ?_ | refine Yi ?_ | refine Yj ?_ | refine Yk ?_ | refine Yl ?_ | refine Ym ?_ | refine Yn ?_ | refine Yo ?_ | refine Yp (h := ?_) | refine Yq ?_ | refine Yr ?_ | refine Ys ?_ | refine Zr hc (hk := ?_) | refine Zd hc (hk := ?_) | (refine Zc (ht := fun hb => ?_) (hf := fun hb => ?_) <;> (try simp at hb)) | fail) | (first | refine Zo hc (hk := ?_) | refine Zu hc (hk := ?_) | refine Ze hc (hk := ?_) | refine Zn hc (hk := ?_) | fail))
      all_goals try contradiction
      all_goals try (exfalso; omega)
      refine run_leaveM [100003, 100000, 100001, 100002] hc (le_end rfl) (by simp; exact Gives.mk) (by simp; exact Gives.mk) (by simp [← hil]) ?_
      rw [← hil, ← hrow]
      have hz : i + (l.length - i) = L.length := by omega
      simp [hz]
/-- No starts at all. -/
theorem delNo_ok (t bu wi : Int) (n : Nat) (I : List Wnt) (M : List HstD) (ht : okM t) (hw : 1 ≤ wi ∧ wi ≤ 100000000) :
    FnMem Tryz.prog 110 [.d (.lit (.slice none 0 0)), tkClo t] [tkBx I.length M.length bu wi, tkW2 I, tkH2 M] (.d (.lit (.slice none 0 0))) [tkBx I.length M.length bu wi, tkW2 I, tkH2 M] := by
  have hI : FnMem Tryz.prog 164 [.d (.lit (.slice none 0 0)), tkClo t] [tkBx I.length M.length bu wi, tkW2 I, tkH2 M] (.d (int (-1))) [tkBx I.length M.length bu wi, tkW2 I, tkH2 M] := by
    refine fnMem Tryz.func164 rfl (by kernel_rfl) Tryz.ntmps164 _ rfl (by simp) fun C hc => ?_
    repeat' (first | (first | refine Ya ?_ | refine Yb ?_ | refine Yc ?_ | refine Yd ?_ | refine Ye ?_ | refine Yf ?_ | refine Yg ?_ | refine Yh ?_ | refine Yi ?_ | refine Yj ?_ | refine Yk ?_ | refine Yl ?_ | refine Ym ?_ | refine Yn ?_ | refine Yo ?_ | refine Yp (h := ?_) | refine Yq ?_ | refine Yr ?_ | refine Ys ?_ | refine Zr hc (hk := ?_) | refine Zd hc (hk := ?_) | (refine Zc (ht := fun hb => ?_) (hf := fun hb => ?_) <;> (try simp at hb)) | fail) | (first | refine Zo hc (hk := ?_) | refine Zu hc (hk := ?_) | refine Ze hc (hk := ?_) | refine Zn hc (hk := ?_) | fail))
    refine ewp_loop (fun j : Nat => ⟨[(0, .d (.lit (.slice none 0 0))), (1, tkClo t), (7, .d (int 0)), (8, .d (int j))], [tkBx I.length M.length bu wi, tkW2 I, tkH2 M]⟩) (fun j => j ≤ 0) (fun j => 0 - j) 0 (by simp) (run_keep [0, 1, 7, 8] [100000, 100001, 100002] (by simp; exact Gives.mk) (by simp; exact Gives.mk)) ?_
    intro j hj
    obtain rfl : j = 0 := by omega
    repeat' (first | (first | refine Ya ?_ | refine Yb ?_ | refine Yc ?_ | refine Yd ?_ | refine Ye ?_ | refine Yf ?_ | refine Yg ?_ | refine Yh ?_ | refine Yi ?_ | refine Yj ?_ | refine Yk ?_ | refine Yl ?_ | refine Ym ?_ | refine Yn ?_ | refine Yo ?_ | refine Yp (h := ?_) | refine Yq ?_ | refine Yr ?_ | refine Ys ?_ | refine Zr hc (hk := ?_) | refine Zd hc (hk := ?_) | (refine Zc (ht := fun hb => ?_) (hf := fun hb => ?_) <;> (try simp at hb)) | fail) | (first | refine Zo hc (hk := ?_) | refine Zu hc (hk := ?_) | refine Ze hc (hk := ?_) | refine Zn hc (hk := ?_) | fail))
    all_goals try contradiction
    all_goals try (exfalso; omega)
    (refine run_leaveM [100000, 100001, 100002] hc (le_end rfl) (by simp; exact Gives.mk) (by simp; exact Gives.mk) (by first | (simp; done) | (simp; omega)) ?_)
    simp
  refine fnMem Tryz.func110 rfl (by kernel_rfl) Tryz.ntmps110 _ rfl (by simp) fun C hc => ?_
  repeat' (first | (first | refine Ya ?_ | refine Yb ?_ | refine Yc ?_ | refine Yd ?_ | refine Ye ?_ | refine Yf ?_ | refine Yg ?_ | refine Yh ?_ | refine Yi ?_ | refine Yj ?_ | refine Yk ?_ | refine Yl ?_ | refine Ym ?_ | refine Yn ?_ | refine Yo ?_ | refine Yp (h := ?_) | refine Yq ?_ | refine Yr ?_ | refine Ys ?_ | refine Zr hc (hk := ?_) | refine Zd hc (hk := ?_) | (refine Zc (ht := fun hb => ?_) (hf := fun hb => ?_) <;> (try simp at hb)) | fail) | ((first | refine run_callM ([(100000, 100000), (100001, 100001), (100002, 100002)]) (hI) hc (by simp; exact Gives.mk) (by simp; exact Gives.mk) (by simp; exact Gives.mk) (by simp; exact Gives.mk) (by simp; exact Gives.mk) rfl (by simp; exact Gives.mk) (by simp; exact Gives.mk) rfl (by simp) (by simp) (by simp; exact Gives.mk) (by simp; exact Gives.mk) ?_ | fail)) | (first | refine Zo hc (hk := ?_) | refine Zu hc (hk := ?_) | refine Ze hc (hk := ?_) | refine Zn hc (hk := ?_) | fail))
  all_goals try contradiction
  all_goals try (exfalso; omega)
  (refine run_leaveM [100000, 100001, 100002] hc (le_end rfl) (by simp; exact Gives.mk) (by simp; exact Gives.mk) (by first | (simp; done) | (simp; omega)) ?_)
  simp
end Go.Proofs.YtnainpghpjelcaaGreatDoor
/-
  FRONTIER: find, among hosts one of whose starts are any value (program). (WITH run_drawN.)
-/
set_option linter.unusedSimpArgs false
set_option linter.unusedVariables false
namespace Go.Proofs.YtnainpghpjelcaaGreatDoor
open Go.Lw Go.RowKit
set_option maxRecDepth 100000
set_option maxHeartbeats 2000000

abbrev hdAt (M : List HstD) (j : Nat) : HstD := M[j]?.getD hd0
abbrev hdD (x : HstD) : D := .agg [str x.1, int x.2.1, tru x.2.2.1, x.2.2.2]
abbrev hdSl (M : List HstD) : D := .sl M.length fun i => [str (hdAt M i).1, int (hdAt M i).2.1, tru (hdAt M i).2.2.1, (hdAt M i).2.2.2]
abbrev nameK (M : List HstD) (j : Nat) : Bs := (hdAt M j).1
theorem nameK_toHD (H : List Hst) : nameK (H.map toHD) = nameAt H := by
  funext j
  show ((H.map toHD)[j]?.getD hd0).1 = (H[j]?.getD hst0).1
  rw [List.getElem?_map]
  cases H[j]? <;> rfl
theorem nameK_hosK (H : List Hst) (k : Nat) (y : Gh) : nameK (hosK H k y) = nameAt H := by
  rw [← nameK_toHD]
  funext j
  show ((hosK H k y)[j]?.getD hd0).1 = ((H.map toHD)[j]?.getD hd0).1
  unfold hosK
  rw [List.getElem?_set]
  split
  · rename_i e
    subst e
    split
    · rename_i hl
      simp only [List.length_map] at hl
      simp [hstAt, hl, toHD]
    · rename_i hl
      rw [List.getElem?_eq_none (by simpa using hl)]
  · rfl
/-- The starts are a row of numbers, or a slice whose very value is known. -/
def OkSt (x : HstD) : Prop := (∃ l, x.2.2.2 = intSl l) ∨ ∃ A n c, x.2.2.2 = .lit (.slice A n c)
theorem okSt_hosK (H : List Hst) (k : Nat) (y : Gh) (j : Nat) : OkSt (hdAt (hosK H k y) j) := by
  unfold hosK hdAt
  rw [List.getElem?_set]
  split
  · split
    · exact .inr ⟨_, _, _, rfl⟩
    · exact .inl ⟨[], rfl⟩
  · rw [List.getElem?_map]
    cases H[j]? with
    | none => exact .inl ⟨[], rfl⟩
    | some x => exact .inl ⟨x.2.2.2, rfl⟩
theorem findCmpK_ok (x : HstD) (s : Bs) (hx : OkSt x) : FnOk Tryz.prog 148 [hdD x, str s] (int (Lib.compareBytes x.1 s)) := by
  refine fnOk Tryz.func148 rfl (by kernel_rfl) Tryz.ntmps148 _ rfl (by simp) fun C hc => ?_
  obtain ⟨x1, x2, x3, x4⟩ := x
  have h1 := strCompare_ok x1 s
  rcases hx with ⟨l, h⟩ | ⟨A, n, c, h⟩
  all_goals
    simp only at h
    subst h
    simp only
    repeat' (first | (first | refine Ya ?_ | refine Yb ?_ | refine Yc ?_ | refine Yd ?_ | refine Ye ?_ | refine Yf ?_ | refine Yg ?_ | refine Yh ?_ | refine Yi ?_ | refine Yj ?_ | refine Yk ?_ | refine Yl ?_ | refine Ym ?_ | refine Yn ?_ | refine Yo ?_ | refine Yp (h := ?_) | refine Yq ?_ | refine Yr ?_ | refine Ys ?_ | refine Zr hc (hk := ?_) | refine Zd hc (hk := ?_) | (refine Zc (ht := fun hb => ?_) (hf := fun hb => ?_) <;> (try simp at hb)) | fail) | (first | refine Zw hc (hf := by exact h1) (hk := ?_) | refine Zq hc (hf := by exact h1) (hk := ?_) | refine Zo hc (hk := ?_) | refine Zu hc (hk := ?_) | refine Ze hc (hk := ?_) | refine Zn hc (hk := ?_) | fail))
    (refine Zl hc (hr := ?_))
    simp
theorem bsHostK_ok (H : List HstD) (s : Bs) (hl : H.length ≤ 300) (ha : ascB (nameK H) H.length) (ho : ∀ j, OkSt (hdAt H j)) : FnOk Tryz.prog 147 [hdSl H, str s, .lit (.func (.func 148) #[] #[])]
    (.tup [int (lbB (nameK H) H.length s), tru (thereB (nameK H) H.length s)]) := by
  refine fnOk Tryz.func147 rfl (by kernel_rfl) Tryz.ntmps147 _ rfl (by simp) fun C hc => ?_
  repeat' (first | (first | refine Ya ?_ | refine Yb ?_ | refine Yc ?_ | refine Yd ?_ | refine Ye ?_ | refine Yf ?_ | refine Yg ?_ | refine Yh ?_ | refine Yi ?_ | refine Yj ?_ | refine Yk ?_ | refine Yl ?_ | refine Ym ?_ | refine Yn ?_ | refine Yo ?_ | refine Yp (h := ?_) | refine Yq ?_ | refine Yr ?_ | refine Ys ?_ | refine Zr hc (hk := ?_) | refine Zd hc (hk := ?_) | (refine Zc (ht := fun hb => ?_) (hf := fun hb => ?_) <;> (try simp at hb)) | fail) | (first | refine Zo hc (hk := ?_) | refine Zu hc (hk := ?_) | refine Ze hc (hk := ?_) | refine Zn hc (hk := ?_) | fail))
  refine ewp_loop (fun x : Nat × Nat => ⟨[(0, .d (hdSl H)), (1, .d (str s)), (2, .d (.lit (.func (.func 148) #[] #[]))), (8, .d (int H.length)), (9, .d (int x.1)), (10, .d (int x.2))], []⟩)
    (fun x => x.1 ≤ x.2 ∧ x.2 ≤ H.length ∧ (∀ j, j < x.1 → Op.bytesLess (nameK H j) s = true) ∧ (x.2 < H.length → Op.bytesLess (nameK H x.2) s = false)) (fun x => x.2 - x.1) (0, H.length) (by simp) (run_keep [0, 1, 2, 8, 9, 10] [] (by simp; exact Gives.mk) (by simp; exact Gives.mk)) ?_
  rintro ⟨i, j⟩ ⟨h1, h2, h3, h4⟩
  simp only at h1 h2 h3 h4 ⊢
  by_cases hij : i < j
  · obtain ⟨m, hm, hm1, hm2⟩ : ∃ m : Nat, (i + j) / 2 = m ∧ i ≤ m ∧ m < j := ⟨_, rfl, by omega, by omega⟩
    have hC := findCmpK_ok (hdAt H m) s (ho m)
    have hneg := cmp_neg (hdAt H m).1 s
    generalize Lib.compareBytes (hdAt H m).1 s = c at hC hneg
    have hfd := half_of hm
    repeat' (first | (first | refine ewp_seq ?_ | refine run_region hc (by simp [hfd]; exact Ends.go) (by first | exact True.intro | omega | assumption | (simp; done) | (simp; omega) | (simp at *; omega)) ?_ | refine run_draw hc (by kernel_rfl) (by kernel_rfl) (by simp [hfd]; exact Ends.go) (by first | exact True.intro | omega | assumption | (simp; done) | (simp; omega) | (simp at *; omega)) ?_ | refine ewp_scope ?_ | refine scopeQ_normal ?_ | refine scopeQ_ret ?_ | refine scopeQ_exit ?_ | refine ewp_skip ?_ | refine ewp_block ?_ | refine ewp_exit ?_ | refine ewp_label ?_ | refine thenQ_normal ?_ | refine thenQ_ret ?_ | refine thenQ_exit ?_ | refine blockQ_normal ?_ | refine blockQ_ret ?_ | refine blockQ_here ?_ | refine blockQ_there (by decide) ?_ | refine ewp_ret ?_ | refine opsW_nil ?_ | refine quietW_nil ?_ | (refine run_cond (by simp [hfd]; exact Gives.mk) (fun hb => ?_) (fun hb => ?_) <;> (try simp at hb)) | fail) | (first | refine run_callW hc (by simp [hfd]; exact Gives.mk) (by simp [hfd]; exact Gives.mk) (by simp [hfd]; exact Gives.mk) (by simp [hfd]; exact Gives.mk) (by simp [hfd]; exact Gives.mk) (fun _ => by first | exact hC) (by simp) (by simp) ?_ | refine run_callQ hc (by simp [hfd]; exact Gives.mk) (by simp [hfd]; exact Gives.mk) (by simp [hfd]; exact Gives.mk) (by simp [hfd]; exact Gives.mk) (by simp [hfd]; exact Gives.mk) (fun _ => by first | exact hC) (by simp) (by simp) ?_ | refine run_ops hc (by simp [hfd]; first | exact Ends.go | exact Ends.halt) (by decide) (by first | exact True.intro | omega | assumption | (simp; done) | (simp; omega) | (simp at *; omega)) ?_ | refine run_quiet hc (by simp [hfd]; first | exact Ends.go | exact Ends.halt) (by decide) (by first | exact True.intro | omega | assumption | (simp; done) | (simp; omega) | (simp at *; omega)) ?_ | refine run_regionW hc (by simp [hfd]; exact Ends.halt) (by first | exact True.intro | omega | assumption | (simp; done) | (simp; omega) | (simp at *; omega)) ?_ | refine run_drawN hc (by kernel_rfl) (by decide) (by kernel_rfl) (by simp [hfd]; exact Ends.halt) (by first | exact True.intro | omega | assumption | (simp; done) | (simp; omega) | (simp at *; omega)) ?_ | fail))
    all_goals try (exfalso; omega)
    · have hk := hneg.1 hb
      exact ⟨(m + 1, j), ⟨by simp only; omega, h2, fun t ht => by
        simp only at ht
        rcases Nat.lt_or_ge t m with h | h
        · exact bl_trans (ha t m h (by omega)) hk
        · obtain rfl : t = m := by omega
          exact hk, h4⟩, by simp only; omega, run_back [0, 1, 2, 8, 9, 10] [] (by simp; exact Gives.mk) (by simp; exact Gives.mk) (by simp)⟩
    · have hk : Op.bytesLess (nameK H m) s = false := Bool.eq_false_iff.2 fun e => by
        have := hneg.2 e
        omega
      exact ⟨(i, m), ⟨by simp only; omega, by simp only; omega, h3, fun _ => hk⟩, by simp only; omega, run_back [0, 1, 2, 8, 9, 10] [] (by simp; exact Gives.mk) (by simp; exact Gives.mk) (by simp)⟩
  · obtain rfl : i = j := by omega
    have e := lbB_of h2 h3 h4
    repeat' (first | (first | refine Ya ?_ | refine Yb ?_ | refine Yc ?_ | refine Yd ?_ | refine Ye ?_ | refine Yf ?_ | refine Yg ?_ | refine Yh ?_ | refine Yi ?_ | refine Yj ?_ | refine Yk ?_ | refine Yl ?_ | refine Ym ?_ | refine Yn ?_ | refine Yo ?_ | refine Yp (h := ?_) | refine Yq ?_ | refine Yr ?_ | refine Ys ?_ | refine Zr hc (hk := ?_) | refine Zd hc (hk := ?_) | (refine Zc (ht := fun hb => ?_) (hf := fun hb => ?_) <;> (try simp at hb)) | fail) | (first | refine Zo hc (hk := ?_) | refine Zu hc (hk := ?_) | refine Ze hc (hk := ?_) | refine Zn hc (hk := ?_) | fail))
    all_goals try (exfalso; omega)
    unfold thereB
    rw [e]
    by_cases hn : i < H.length
    · have hC := findCmpK_ok (hdAt H i) s (ho i)
      have hz := cmp_zero (hdAt H i).1 s
      generalize Lib.compareBytes (hdAt H i).1 s = c at hC hz
      repeat' (first | (first | refine ewp_seq ?_ | refine run_region hc (by simp [hn]; exact Ends.go) (by first | exact True.intro | omega | assumption | (simp; done) | (simp; omega) | (simp at *; omega)) ?_ | refine run_draw hc (by kernel_rfl) (by kernel_rfl) (by simp [hn]; exact Ends.go) (by first | exact True.intro | omega | assumption | (simp; done) | (simp; omega) | (simp at *; omega)) ?_ | refine ewp_scope ?_ | refine scopeQ_normal ?_ | refine scopeQ_ret ?_ | refine scopeQ_exit ?_ | refine ewp_skip ?_ | refine ewp_block ?_ | refine ewp_exit ?_ | refine ewp_label ?_ | refine thenQ_normal ?_ | refine thenQ_ret ?_ | refine thenQ_exit ?_ | refine blockQ_normal ?_ | refine blockQ_ret ?_ | refine blockQ_here ?_ | refine blockQ_there (by decide) ?_ | refine ewp_ret ?_ | refine opsW_nil ?_ | refine quietW_nil ?_ | (refine run_cond (by simp [hn]; exact Gives.mk) (fun hb => ?_) (fun hb => ?_) <;> (try simp at hb)) | fail) | (first | refine run_callW hc (by simp [hn]; exact Gives.mk) (by simp [hn]; exact Gives.mk) (by simp [hn]; exact Gives.mk) (by simp [hn]; exact Gives.mk) (by simp [hn]; exact Gives.mk) (fun _ => by first | exact hC) (by simp) (by simp) ?_ | refine run_callQ hc (by simp [hn]; exact Gives.mk) (by simp [hn]; exact Gives.mk) (by simp [hn]; exact Gives.mk) (by simp [hn]; exact Gives.mk) (by simp [hn]; exact Gives.mk) (fun _ => by first | exact hC) (by simp) (by simp) ?_ | refine run_ops hc (by simp [hn]; first | exact Ends.go | exact Ends.halt) (by decide) (by first | exact True.intro | omega | assumption | (simp; done) | (simp; omega) | (simp at *; omega)) ?_ | refine run_quiet hc (by simp [hn]; first | exact Ends.go | exact Ends.halt) (by decide) (by first | exact True.intro | omega | assumption | (simp; done) | (simp; omega) | (simp at *; omega)) ?_ | refine run_regionW hc (by simp [hn]; exact Ends.halt) (by first | exact True.intro | omega | assumption | (simp; done) | (simp; omega) | (simp at *; omega)) ?_ | refine run_drawN hc (by kernel_rfl) (by decide) (by kernel_rfl) (by simp [hn]; exact Ends.halt) (by first | exact True.intro | omega | assumption | (simp; done) | (simp; omega) | (simp at *; omega)) ?_ | fail))
      (refine Zl hc (hr := ?_))
      have e2 : (c == 0) = decide (nameK H i = s) := by
        rw [Bool.eq_iff_iff]
        simpa using hz
      simp [hn, e2]
    · repeat' (first | (first | refine ewp_seq ?_ | refine run_region hc (by simp [hn]; exact Ends.go) (by first | exact True.intro | omega | assumption | (simp; done) | (simp; omega) | (simp at *; omega)) ?_ | refine run_draw hc (by kernel_rfl) (by kernel_rfl) (by simp [hn]; exact Ends.go) (by first | exact True.intro | omega | assumption | (simp; done) | (simp; omega) | (simp at *; omega)) ?_ | refine ewp_scope ?_ | refine scopeQ_normal ?_ | refine scopeQ_ret ?_ | refine scopeQ_exit ?_ | refine ewp_skip ?_ | refine ewp_block ?_ | refine ewp_exit ?_ | refine ewp_label ?_ | refine thenQ_normal ?_ | refine thenQ_ret ?_ | refine thenQ_exit ?_ | refine blockQ_normal ?_ | refine blockQ_ret ?_ | refine blockQ_here ?_ | refine blockQ_there (by decide) ?_ | refine ewp_ret ?_ | refine opsW_nil ?_ | refine quietW_nil ?_ | (refine run_cond (by simp [hn]; exact Gives.mk) (fun hb => ?_) (fun hb => ?_) <;> (try simp at hb)) | fail) | (first | refine run_skip hc (by simp [hn]; exact Gives.mk) (by simp) ?_ | fail) | (first | refine run_callW hc (by simp [hn]; exact Gives.mk) (by simp [hn]; exact Gives.mk) (by simp [hn]; exact Gives.mk) (by simp [hn]; exact Gives.mk) (by simp [hn]; exact Gives.mk) (fun _ => by first | exact (show FnOk _ _ _ (int 0) from by exfalso; simp_all; done)) (by simp) (by simp) ?_ | refine run_callQ hc (by simp [hn]; exact Gives.mk) (by simp [hn]; exact Gives.mk) (by simp [hn]; exact Gives.mk) (by simp [hn]; exact Gives.mk) (by simp [hn]; exact Gives.mk) (fun _ => by first | exact (show FnOk _ _ _ (int 0) from by exfalso; simp_all; done)) (by simp) (by simp) ?_ | refine run_ops hc (by simp [hn]; first | exact Ends.go | exact Ends.halt) (by decide) (by first | exact True.intro | omega | assumption | (simp; done) | (simp; omega) | (simp at *; omega)) ?_ | refine run_quiet hc (by simp [hn]; first | exact Ends.go | exact Ends.halt) (by decide) (by first | exact True.intro | omega | assumption | (simp; done) | (simp; omega) | (simp at *; omega)) ?_ | refine run_regionW hc (by simp [hn]; exact Ends.halt) (by first | exact True.intro | omega | assumption | (simp; done) | (simp; omega) | (simp at *; omega)) ?_ | refine run_drawN hc (by kernel_rfl) (by decide) (by kernel_rfl) (by simp [hn]; exact Ends.halt) (by first | exact True.intro | omega | assumption | (simp; done) | (simp; omega) | (simp at *; omega)) ?_ | fail))
      (refine Zl hc (hr := ?_))
      simp [hn]
abbrev frDK (I : List Wnt) (M : List HstD) (bu wi : Int) : D := .agg [wntSl I, hdSl M, int bu, int wi]
theorem findK_ok (I : List Wnt) (M : List HstD) (bu wi : Int) (s : Bs) (hl : M.length ≤ 300) (ha : ascB (nameK M) M.length) (ho : ∀ j, OkSt (hdAt M j)) : FnOk Tryz.prog 87 [frDK I M bu wi, str s] (.tup [int (lbB (nameK M) M.length s), tru (thereB (nameK M) M.length s)]) := by
  refine fnOk Tryz.func87 rfl (by kernel_rfl) Tryz.ntmps87 _ rfl (by simp) fun C hc => ?_
  have h1 := bsHostK_ok M s hl ha ho
  repeat' (first | (first | refine Ya ?_ | refine Yb ?_ | refine Yc ?_ | refine Yd ?_ | refine Ye ?_ | refine Yf ?_ | refine Yg ?_ | refine Yh ?_ | refine Yi ?_ | refine Yj ?_ | refine Yk ?_ | refine Yl ?_ | refine Ym ?_ | refine Yn ?_ | refine Yo ?_ | refine Yp (h := ?_) | refine Yq ?_ | refine Yr ?_ | refine Ys ?_ | refine Zr hc (hk := ?_) | refine Zd hc (hk := ?_) | (refine Zc (ht := fun hb => ?_) (hf := fun hb => ?_) <;> (try simp at hb)) | fail) | (first | refine Zw hc (hf := by exact h1) (hk := ?_) | refine Zq hc (hf := by exact h1) (hk := ?_) | refine Zo hc (hk := ?_) | refine Zu hc (hk := ?_) | refine Ze hc (hk := ?_) | refine Zn hc (hk := ?_) | fail))
  (refine Zl hc (hr := ?_))
  simp
end Go.Proofs.YtnainpghpjelcaaGreatDoor
