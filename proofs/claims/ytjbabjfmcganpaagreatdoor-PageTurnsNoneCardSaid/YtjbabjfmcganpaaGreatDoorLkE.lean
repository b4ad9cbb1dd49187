/-
  PAGE: a link is added; the links of a style. (WITH run_drawN.)
-/
import Derived.Test.YtjbabjfmcganpaaGreatDoorLkB
import Derived.Test.YtjbabjfmcganpaaGreatDoorOwnD
import Derived.Test.YtjbabjfmcganpaaGreatDoorLwCalm
import Derived.Test.YtjbabjfmcganpaaGreatDoorAdL
set_option linter.unusedSimpArgs false
set_option linter.unusedVariables false
namespace Go.Proofs.YtjbabjfmcganpaaGreatDoor
open Go.Lw Go.RowKit
set_option maxRecDepth 100000
set_option maxHeartbeats 1000000

abbrev dfL : List D := [.lit (.int .i64 0), .lit (.string (bs [])), .lit (.int .i64 0), .lit (.int .i64 0), .lit (.string (bs [])), .lit (.string (bs [])), .lit (.string (bs [])), .lit (.string (bs [])), .lit (.string (bs [])), .lit (.bool false), .lit (.string (bs [])), .lit (.bool false), .lit (.bool false)]
@[simp] theorem getD_dfL (o : Option Lnk) : (Option.map encL o).getD dfL = encL (o.getD .none) := by cases o <;> rfl
abbrev fndC (a b : Adr) : List V := [.d (str a.scheme), .d (str a.host), .d (str a.port), .d (str a.path), .d (str a.query), .d (tru a.hasQ), .d (str a.frag), .d (tru a.hasF), .d (str b.scheme), .d (str b.host), .d (str b.port), .d (str b.path), .d (str b.query), .d (tru b.hasQ), .d (str b.frag), .d (tru b.hasF)]
abbrev fnd (x y : Nat) (a b : Adr) (m : List Lnk) : List (Nat × O) := [(x, .box 49 (fndC a b ++ [.os y m.length])), (y, .own 33 13 (true, dfL) (m.map encL))]
theorem add_ok (a b : Adr) (ha : a.Fits) (hb : b.Fits) (m : List Lnk) (k : Nat) (text : Bs) (fr til : Nat) (hm : m.length ≤ 100000000000) (ht : text.length ≤ 200000) (hk : k ≤ 9) :
    FnMem Tryz.prog 17 [.bp 100000 0, .d (int k), .d (str text), .d (.agg [int fr, int til])] (fnd 100000 50001 a b m) (.d (.tup [])) (fnd 100000 50001 a b (m ++ [addL a b k text fr til])) := by
  refine fnMem Tryz.func17 rfl (by kernel_rfl) Tryz.ntmps17 _ rfl (by simp) fun C hc => ?_
  have hR : FnOk Tryz.prog 37 [adrD (if k = 1 then a else b), str text] (.tup [adrD (resR (if k = 1 then a else b) text).1, int (resR (if k = 1 then a else b) text).2]) := resolve_ok _ text (by split <;> assumption) (by omega)
  unfold addL
  generalize resR (if k = 1 then a else b) text = r at hR ⊢
  obtain ⟨r, f⟩ := r
  simp only at hR ⊢
  have hR' : FnOk Tryz.prog 37 [adrD (if k = 1 then a else b), str text] (.tup [adrD r, int f]) := hR
  by_cases h1 : k = 1
  · rw [if_pos h1] at hR'
    repeat' (first | (first | refine Ya ?_ | refine Yb ?_ | refine Yc ?_ | refine Yd ?_ | refine Ye ?_ | refine Yf ?_ | refine Yg ?_ | refine Yh ?_ | refine Yi ?_ | refine Yj ?_ | refine Yk ?_ | refine Yl ?_ | refine Ym ?_ | refine Yn ?_ | refine Yo ?_ | refine Yp (h := ?_) | refine Yq ?_ | refine Yr ?_ | refine Ys ?_ | refine Zr hc (hk := ?_) | refine Zd hc (hk := ?_) | (refine Zc (ht := fun hb => ?_) (hf := fun hb => ?_) <;> (try simp at hb)) | fail) | (first | refine Zw hc (hf := by exact hR') (hk := ?_) | refine Zq hc (hf := by exact hR') (hk := ?_) | refine Zo hc (hk := ?_) | refine Zu hc (hk := ?_) | refine Ze hc (hk := ?_) | refine Zn hc (hk := ?_) | fail))
    all_goals try (exfalso; omega)
    all_goals refine ewp_le (run_keep [0, 8] [100000, 50001, 8] (by simp; exact Gives.mk) (by simp; exact Gives.mk)) ?_
    · rw [if_pos hb]
      clear hR hR' ha
      (apply Xd 11 hc; (focus (refine Xm 0 hc (hk := ?_); refine Xm 1 hc (hk := ?_); refine Xp 2 hc (hk := ?_); refine Xp 3 hc (hk := ?_); refine run_anyR 5 [5, 6, 7, 8, 9, 10] hc rfl (by kernel_rfl) rfl (by simp; exact Gives.mk) (by first | exact True.intro | omega | (simp; done) | (simp; omega) | (simp at *; omega)) (by simp) (by simp; exact Gives.mk) ?_; refine Xa [4, 6] (hx := ?_); refine ⟨?_, ?_⟩; (focus (refine Xw hc (hk := ?q80); refine Xa [6] (hx := ?nq80); (focus (refine Xw hc (hk := ?q81); refine Xa [7] (hx := ?nq81); (focus (refine Xw hc (hk := ?q82); refine Xp 8 hc (hk := ?nq82); refine Xp 9 hc (hk := ?_); refine Xa [10] (hx := ?_); (focus (refine Xw hc (hk := ?q83); refine Xz (hk := ?nq83); exact Xk [0] [100000, 50001])))))))); (focus (refine Xw hc (hk := ?q84); refine run_anyR 4 [4, 7, 8, 9, 10] hc rfl (by kernel_rfl) rfl (by simp; exact Gives.mk) (by first | exact True.intro | omega | (simp; done) | (simp; omega) | (simp at *; omega)) (by simp) (by simp; exact Gives.mk) ?nq84; refine Xa [7] (hx := ?_); (focus (refine Xw hc (hk := ?_); exact Xq ?q82)))))))
      repeat' (first | (first | refine Ya ?_ | refine Yb ?_ | refine Yc ?_ | refine Yd ?_ | refine Ye ?_ | refine Yf ?_ | refine Yg ?_ | refine Yh ?_ | refine Yi ?_ | refine Yj ?_ | refine Yk ?_ | refine Yl ?_ | refine Ym ?_ | refine Yn ?_ | refine Yo ?_ | refine Yp (h := ?_) | refine Yq ?_ | refine Yr ?_ | refine Ys ?_ | refine Zr hc (hk := ?_) | refine Zd hc (hk := ?_) | (refine Zc (ht := fun hb => ?_) (hf := fun hb => ?_) <;> (try simp at hb)) | fail) | (first | refine Zo hc (hk := ?_) | refine Zu hc (hk := ?_) | refine Ze hc (hk := ?_) | refine Zn hc (hk := ?_) | fail))
      (refine run_leaveM [100000, 50001] hc (le_end rfl) (by simp; exact Gives.mk) (by simp; exact Gives.mk) (by first | (simp; done) | (simp; omega)) ?_)
      simp
    · rw [if_neg hb]
      clear hR hR' ha
      (apply Xd 11 hc; (focus (refine Xm 0 hc (hk := ?_); refine Xm 1 hc (hk := ?_); refine Xp 2 hc (hk := ?_); refine Xp 3 hc (hk := ?_); refine run_anyR 5 [5, 6, 7, 8, 9, 10] hc rfl (by kernel_rfl) rfl (by simp; exact Gives.mk) (by first | exact True.intro | omega | (simp; done) | (simp; omega) | (simp at *; omega)) (by simp) (by simp; exact Gives.mk) ?_; refine Xa [4, 6] (hx := ?_); refine ⟨?_, ?_⟩; (focus (refine Xw hc (hk := ?qb80); refine Xa [6] (hx := ?nqb80); (focus (refine Xw hc (hk := ?qb81); refine Xa [7] (hx := ?nqb81); (focus (refine Xw hc (hk := ?qb82); refine Xp 8 hc (hk := ?nqb82); refine Xp 9 hc (hk := ?_); refine Xa [10] (hx := ?_); (focus (refine Xw hc (hk := ?qb83); refine Xz (hk := ?nqb83); exact Xk [0] [100000, 50001])))))))); (focus (refine Xw hc (hk := ?qb84); refine run_anyR 4 [4, 7, 8, 9, 10] hc rfl (by kernel_rfl) rfl (by simp; exact Gives.mk) (by first | exact True.intro | omega | (simp; done) | (simp; omega) | (simp at *; omega)) (by simp) (by simp; exact Gives.mk) ?nqb84; refine Xa [7] (hx := ?_); (focus (refine Xw hc (hk := ?_); exact Xq ?qb82)))))))
      repeat' (first | (first | refine Ya ?_ | refine Yb ?_ | refine Yc ?_ | refine Yd ?_ | refine Ye ?_ | refine Yf ?_ | refine Yg ?_ | refine Yh ?_ | refine Yi ?_ | refine Yj ?_ | refine Yk ?_ | refine Yl ?_ | refine Ym ?_ | refine Yn ?_ | refine Yo ?_ | refine Yp (h := ?_) | refine Yq ?_ | refine Yr ?_ | refine Ys ?_ | refine Zr hc (hk := ?_) | refine Zd hc (hk := ?_) | (refine Zc (ht := fun hb => ?_) (hf := fun hb => ?_) <;> (try simp at hb)) | fail) | (first | refine Zo hc (hk := ?_) | refine Zu hc (hk := ?_) | refine Ze hc (hk := ?_) | refine Zn hc (hk := ?_) | fail))
      (refine run_leaveM [100000, 50001] hc (le_end rfl) (by simp; exact Gives.mk) (by simp; exact Gives.mk) (by first | (simp; done) | (simp; omega)) ?_)
      simp
  · rw [if_neg h1] at hR'
    repeat' (first | (first | refine Ya ?_ | refine Yb ?_ | refine Yc ?_ | refine Yd ?_ | refine Ye ?_ | refine Yf ?_ | refine Yg ?_ | refine Yh ?_ | refine Yi ?_ | refine Yj ?_ | refine Yk ?_ | refine Yl ?_ | refine Ym ?_ | refine Yn ?_ | refine Yo ?_ | refine Yp (h := ?_) | refine Yq ?_ | refine Yr ?_ | refine Ys ?_ | refine Zr hc (hk := ?_) | refine Zd hc (hk := ?_) | (refine Zc (ht := fun hb => ?_) (hf := fun hb => ?_) <;> (try simp at hb)) | fail) | (first | refine Zw hc (hf := by exact hR') (hk := ?_) | refine Zq hc (hf := by exact hR') (hk := ?_) | refine Zo hc (hk := ?_) | refine Zu hc (hk := ?_) | refine Ze hc (hk := ?_) | refine Zn hc (hk := ?_) | fail))
    all_goals try (exfalso; omega)
    all_goals refine ewp_le (run_keep [0, 8] [100000, 50001, 8] (by simp; exact Gives.mk) (by simp; exact Gives.mk)) ?_
    · rw [if_pos hb]
      clear hR hR' ha
      (apply Xd 11 hc; (focus (refine Xm 0 hc (hk := ?_); refine Xm 1 hc (hk := ?_); refine Xp 2 hc (hk := ?_); refine Xp 3 hc (hk := ?_); refine run_anyR 5 [5, 6, 7, 8, 9, 10] hc rfl (by kernel_rfl) rfl (by simp; exact Gives.mk) (by first | exact True.intro | omega | (simp; done) | (simp; omega) | (simp at *; omega)) (by simp) (by simp; exact Gives.mk) ?_; refine Xa [4, 6] (hx := ?_); refine ⟨?_, ?_⟩; (focus (refine Xw hc (hk := ?qc80); refine Xa [6] (hx := ?nqc80); (focus (refine Xw hc (hk := ?qc81); refine Xa [7] (hx := ?nqc81); (focus (refine Xw hc (hk := ?qc82); refine Xp 8 hc (hk := ?nqc82); refine Xp 9 hc (hk := ?_); refine Xa [10] (hx := ?_); (focus (refine Xw hc (hk := ?qc83); refine Xz (hk := ?nqc83); exact Xk [0] [100000, 50001])))))))); (focus (refine Xw hc (hk := ?qc84); refine run_anyR 4 [4, 7, 8, 9, 10] hc rfl (by kernel_rfl) rfl (by simp; exact Gives.mk) (by first | exact True.intro | omega | (simp; done) | (simp; omega) | (simp at *; omega)) (by simp) (by simp; exact Gives.mk) ?nqc84; refine Xa [7] (hx := ?_); (focus (refine Xw hc (hk := ?_); exact Xq ?qc82)))))))
      repeat' (first | (first | refine Ya ?_ | refine Yb ?_ | refine Yc ?_ | refine Yd ?_ | refine Ye ?_ | refine Yf ?_ | refine Yg ?_ | refine Yh ?_ | refine Yi ?_ | refine Yj ?_ | refine Yk ?_ | refine Yl ?_ | refine Ym ?_ | refine Yn ?_ | refine Yo ?_ | refine Yp (h := ?_) | refine Yq ?_ | refine Yr ?_ | refine Ys ?_ | refine Zr hc (hk := ?_) | refine Zd hc (hk := ?_) | (refine Zc (ht := fun hb => ?_) (hf := fun hb => ?_) <;> (try simp at hb)) | fail) | (first | refine Zo hc (hk := ?_) | refine Zu hc (hk := ?_) | refine Ze hc (hk := ?_) | refine Zn hc (hk := ?_) | fail))
      (refine run_leaveM [100000, 50001] hc (le_end rfl) (by simp; exact Gives.mk) (by simp; exact Gives.mk) (by first | (simp; done) | (simp; omega)) ?_)
      simp
    · rw [if_neg hb]
      clear hR hR' ha
      (apply Xd 11 hc; (focus (refine Xm 0 hc (hk := ?_); refine Xm 1 hc (hk := ?_); refine Xp 2 hc (hk := ?_); refine Xp 3 hc (hk := ?_); refine run_anyR 5 [5, 6, 7, 8, 9, 10] hc rfl (by kernel_rfl) rfl (by simp; exact Gives.mk) (by first | exact True.intro | omega | (simp; done) | (simp; omega) | (simp at *; omega)) (by simp) (by simp; exact Gives.mk) ?_; refine Xa [4, 6] (hx := ?_); refine ⟨?_, ?_⟩; (focus (refine Xw hc (hk := ?qd80); refine Xa [6] (hx := ?nqd80); (focus (refine Xw hc (hk := ?qd81); refine Xa [7] (hx := ?nqd81); (focus (refine Xw hc (hk := ?qd82); refine Xp 8 hc (hk := ?nqd82); refine Xp 9 hc (hk := ?_); refine Xa [10] (hx := ?_); (focus (refine Xw hc (hk := ?qd83); refine Xz (hk := ?nqd83); exact Xk [0] [100000, 50001])))))))); (focus (refine Xw hc (hk := ?qd84); refine run_anyR 4 [4, 7, 8, 9, 10] hc rfl (by kernel_rfl) rfl (by simp; exact Gives.mk) (by first | exact True.intro | omega | (simp; done) | (simp; omega) | (simp at *; omega)) (by simp) (by simp; exact Gives.mk) ?nqd84; refine Xa [7] (hx := ?_); (focus (refine Xw hc (hk := ?_); exact Xq ?qd82)))))))
      repeat' (first | (first | refine Ya ?_ | refine Yb ?_ | refine Yc ?_ | refine Yd ?_ | refine Ye ?_ | refine Yf ?_ | refine Yg ?_ | refine Yh ?_ | refine Yi ?_ | refine Yj ?_ | refine Yk ?_ | refine Yl ?_ | refine Ym ?_ | refine Yn ?_ | refine Yo ?_ | refine Yp (h := ?_) | refine Yq ?_ | refine Yr ?_ | refine Ys ?_ | refine Zr hc (hk := ?_) | refine Zd hc (hk := ?_) | (refine Zc (ht := fun hb => ?_) (hf := fun hb => ?_) <;> (try simp at hb)) | fail) | (first | refine Zo hc (hk := ?_) | refine Zu hc (hk := ?_) | refine Ze hc (hk := ?_) | refine Zn hc (hk := ?_) | fail))
      (refine run_leaveM [100000, 50001] hc (le_end rfl) (by simp; exact Gives.mk) (by simp; exact Gives.mk) (by first | (simp; done) | (simp; omega)) ?_)
      simp
def styR (l : Bs) (a : Adr) : List Lnk := (inS l 0).map fun x => addL a a 9 (cutB l x) x.1 x.2
def stE (l : Bs) (a : Adr) : Nat := if 200000 < l.length then 2 else if chkC a ≠ 0 then chkC a else if 5000 < (inS l 0).length then 2 else 0
theorem styR_next (l : Bs) (a : Adr) (j : Nat) (hj : j < (inS l 0).length) : (styR l a).take (j + 1) = (styR l a).take j ++ [addL a a 9 (cutB l ((inS l 0)[j]?.getD (0, 0))) ((inS l 0)[j]?.getD (0, 0)).1 ((inS l 0)[j]?.getD (0, 0)).2] := by
  have hl : j < (styR l a).length := by simpa [styR] using hj
  rw [List.take_succ_eq_append_getElem hl]
  congr 2
  simp [styR, List.getElem?_eq_getElem hj]
theorem styleLinks_ok (l : Bs) (a : Adr) (hm : l.length ≤ maxLen) (ha : a.Fits) : FnOk Tryz.prog 8 [byS l, adrD a] (if stE l a = 0 then .tup [lnkSl (styR l a), int 0] else .tup [nilSl, int (stE l a)]) := by
  refine fnOk Tryz.func8 rfl (by kernel_rfl) Tryz.ntmps8 _ rfl (by simp) fun C hc => ?_
  unfold maxLen at hm
  have hC := check_ok a ha
  unfold stE
  by_cases hl : 200000 < l.length
  · rw [if_pos hl, if_neg (by decide)]
    repeat' (first | (first | refine Ya ?_ | refine Yb ?_ | refine Yc ?_ | refine Yd ?_ | refine Ye ?_ | refine Yf ?_ | refine Yg ?_ | refine Yh ?_ | refine Yi ?_ | refine Yj ?_ | refine Yk ?_ | refine Yl ?_ | refine Ym ?_ | refine Yn ?_ | refine Yo ?_ | refine Yp (h := ?_) | refine Yq ?_ | refine Yr ?_ | refine Ys ?_ | refine Zr hc (hk := ?_) | refine Zd hc (hk := ?_) | (refine Zc (ht := fun hb => ?_) (hf := fun hb => ?_) <;> (try simp at hb)) | fail) | (first | refine Zw hc (hf := by exact hC) (hk := ?_) | refine Zq hc (hf := by exact hC) (hk := ?_) | refine Zo hc (hk := ?_) | refine Zu hc (hk := ?_) | refine Ze hc (hk := ?_) | fail))
    all_goals try (exfalso; omega)
    (refine Zl hc (hr := ?_))
    simp
  rw [if_neg hl]
  have hS := inStyle_ok l (by omega)
  by_cases h0 : chkC a = 0
  rotate_left
  · rw [if_pos h0, if_neg h0]
    repeat' (first | (first | refine Ya ?_ | refine Yb ?_ | refine Yc ?_ | refine Yd ?_ | refine Ye ?_ | refine Yf ?_ | refine Yg ?_ | refine Yh ?_ | refine Yi ?_ | refine Yj ?_ | refine Yk ?_ | refine Yl ?_ | refine Ym ?_ | refine Yn ?_ | refine Yo ?_ | refine Yp (h := ?_) | refine Yq ?_ | refine Yr ?_ | refine Ys ?_ | refine Zr hc (hk := ?_) | refine Zd hc (hk := ?_) | (refine Zc (ht := fun hb => ?_) (hf := fun hb => ?_) <;> (try simp at hb)) | fail) | (first | refine Zw hc (hf := by exact hC) (hk := ?_) | refine Zq hc (hf := by exact hC) (hk := ?_) | refine Zo hc (hk := ?_) | refine Zu hc (hk := ?_) | refine Ze hc (hk := ?_) | fail))
    all_goals try contradiction
    all_goals try (exfalso; omega)
    (refine Zl hc (hr := ?_))
    simp
  rw [if_neg (show ¬ chkC a ≠ 0 from fun h => h h0)]
  rw [h0] at hC
  have hO := inS_ord l 0 (Nat.zero_le _)
  have hlen := inS_lenL l 0
  have hsl : (styR l a).length = (inS l 0).length := by simp [styR]
  have hnx := styR_next l a
  generalize styR l a = R at hsl hnx ⊢
  generalize inS l 0 = X at hS hO hlen hsl hnx ⊢
  repeat' (first | (first | refine Ya ?_ | refine Yb ?_ | refine Yc ?_ | refine Yd ?_ | refine Ye ?_ | refine Yf ?_ | refine Yg ?_ | refine Yh ?_ | refine Yi ?_ | refine Yj ?_ | refine Yk ?_ | refine Yl ?_ | refine Ym ?_ | refine Yn ?_ | refine Yo ?_ | refine Yp (h := ?_) | refine Yq ?_ | refine Yr ?_ | refine Ys ?_ | refine Zr hc (hk := ?_) | refine Zd hc (hk := ?_) | (refine Zc (ht := fun hb => ?_) (hf := fun hb => ?_) <;> (try simp at hb)) | fail) | (first | refine Zw hc (hf := by first | exact hC | exact hS) (hk := ?_) | refine Zq hc (hf := by first | exact hC | exact hS) (hk := ?_) | refine Zo hc (hk := ?_) | refine Zu hc (hk := ?_) | refine Ze hc (hk := ?_) | fail))
  all_goals try contradiction
  all_goals try (exfalso; omega)
  refine ewp_loop (fun x : Nat × List Lnk => ⟨[(7, .d (str l)), (8, .bp 24 0), (26, .d (spSl X)), (27, .d (int X.length)), (28, .d (int x.1))], fnd 24 40000 a a x.2⟩) (fun x => x.1 ≤ X.length ∧ x.2 = R.take x.1) (fun x => X.length - x.1) (0, []) (by simp) (run_keepB [(24, some 16, 40000, 33, dfL)] [7, 8, 26, 27, 28] [24, 40000] (by simp; exact Gives.mk) (by simp; exact Gives.mk) (by simp; exact Gives.mk)) ?_
  rintro ⟨j, m⟩ ⟨hj, hA⟩
  simp only at hj hA ⊢
  have hml : m.length = j := by rw [hA]; simp; omega
  by_cases hlt : j < X.length
  · have hx := hO.get j hlt
    have hn := hnx j hlt
    rw [← hA] at hn
    have hcl := cutB_len l (X[j]?.getD (0, 0))
    have hadd := add_ok a a ha ha m 9 (cutB l (X[j]?.getD (0, 0))) (X[j]?.getD (0, 0)).1 (X[j]?.getD (0, 0)).2 (by omega) (by omega) (by omega)
    generalize hnew : addL a a 9 (cutB l (X[j]?.getD (0, 0))) (X[j]?.getD (0, 0)).1 (X[j]?.getD (0, 0)).2 = new at hn hadd
    repeat' (first | (first | refine Ya ?_ | refine Yb ?_ | refine Yc ?_ | refine Yd ?_ | refine Ye ?_ | refine Yf ?_ | refine Yg ?_ | refine Yh ?_ | refine Yi ?_ | refine Yj ?_ | refine Yk ?_ | refine Yl ?_ | refine Ym ?_ | refine Yn ?_ | refine Yo ?_ | refine Yp (h := ?_) | refine Yq ?_ | refine Yr ?_ | refine Ys ?_ | refine Zr hc (hk := ?_) | refine Zd hc (hk := ?_) | (refine Zc (ht := fun hb => ?_) (hf := fun hb => ?_) <;> (try simp at hb)) | fail) | (refine run_drawT 8 hc (by kernel_rfl) (by kernel_rfl) ?_; try simp only [List.take_succ_cons, List.take_zero, List.drop_succ_cons, List.drop_zero]) | (first | refine Zo hc (hk := ?_) | refine Zu hc (hk := ?_) | refine Ze hc (hk := ?_) | refine Zn hc (hk := ?_) | fail) | (first | refine run_callM ([(100000, 24), (50001, 40000)]) (hadd) hc (by simp; exact Gives.mk) (by simp; exact Gives.mk) (by simp; exact Gives.mk) (by simp; exact Gives.mk) (by simp; exact Gives.mk) rfl (by simp; exact Gives.mk) (by simp; exact Gives.mk) rfl (by simp) (by simp) (by simp; exact Gives.mk) (by simp; exact Gives.mk) ?_ | fail))
    all_goals try (exfalso; omega)
    exact ⟨(j + 1, m ++ [new]), ⟨by simp only; omega, hn.symm⟩, by simp only; omega, run_back [7, 8, 26, 27, 28] [24, 40000] (by simp; exact Gives.mk) (by simp; exact Gives.mk) (by simp)⟩
  · obtain rfl : j = X.length := by omega
    have hR : m = R := by rw [hA, List.take_of_length_le (by omega)]
    rw [← hR]
    repeat' (first | (first | refine Ya ?_ | refine Yb ?_ | refine Yc ?_ | refine Yd ?_ | refine Ye ?_ | refine Yf ?_ | refine Yg ?_ | refine Yh ?_ | refine Yi ?_ | refine Yj ?_ | refine Yk ?_ | refine Yl ?_ | refine Ym ?_ | refine Yn ?_ | refine Yo ?_ | refine Yp (h := ?_) | refine Yq ?_ | refine Yr ?_ | refine Ys ?_ | refine Zr hc (hk := ?_) | refine Zd hc (hk := ?_) | (refine Zc (ht := fun hb => ?_) (hf := fun hb => ?_) <;> (try simp at hb)) | fail) | (first | refine Zo hc (hk := ?_) | refine Zu hc (hk := ?_) | refine Ze hc (hk := ?_) | refine Zn hc (hk := ?_) | fail))
    all_goals try (exfalso; omega)
    · rw [if_pos (show 5000 < X.length by omega), if_neg (by decide)]
      (refine Zl hc (hr := ?_))
      simp
    · rw [if_neg (show ¬ 5000 < X.length by omega), if_pos rfl]
      (refine Zl hc (hr := ?_))
      simp
end Go.Proofs.YtjbabjfmcganpaaGreatDoor
/-
  PAGE: the links of a page. (WITH run_drawN.)
-/
set_option linter.unusedSimpArgs false
set_option linter.unusedVariables false
namespace Go.Proofs.YtjbabjfmcganpaaGreatDoor
open Go.Lw Go.RowKit
set_option maxRecDepth 100000
set_option maxHeartbeats 2000000

/-- Tokens that lie in a page. -/
structure TkIn (p : Bs) (m : List Tk) : Prop where
  len : p.length ≤ 200000
  fit : TkFit m
  ins : ∀ i, i < m.length → (m[i]?.getD Tk.none).fr ≤ (m[i]?.getD Tk.none).til ∧ (m[i]?.getD Tk.none).til ≤ p.length
  plain : ∀ i : Nat, (m[i]?.getD Tk.none).kind ≠ 2 → (m[i]?.getD Tk.none).atts = []
/-- The links of a text in a style, as far as one of them. -/
theorem styJ_next (p : Bs) (a b : Adr) (q : Nat) (X : List (Nat × Nat)) (j : Nat) (hj : j < X.length) :
    (X.take (j + 1)).map (fun x => addL a b 9 (cutB p (q + x.1, q + x.2)) (q + x.1) (q + x.2)) = (X.take j).map (fun x => addL a b 9 (cutB p (q + x.1, q + x.2)) (q + x.1) (q + x.2)) ++ [addL a b 9 (cutB p (q + (X[j]?.getD (0, 0)).1, q + (X[j]?.getD (0, 0)).2)) (q + (X[j]?.getD (0, 0)).1) (q + (X[j]?.getD (0, 0)).2)] := by
  rw [List.take_succ_eq_append_getElem hj, List.map_append, List.getElem?_eq_getElem hj]
  rfl
theorem attJ_next (a b : Adr) (k : Nat) (v : Bs) (f t : Nat) (X : List (Nat × Nat)) (j : Nat) (hj : j < X.length) :
    (X.take (j + 1)).map (fun x => addL a b k (cutB v x) f t) = (X.take j).map (fun x => addL a b k (cutB v x) f t) ++ [addL a b k (cutB v (X[j]?.getD (0, 0))) f t] := by
  rw [List.take_succ_eq_append_getElem hj, List.map_append, List.getElem?_eq_getElem hj]
  rfl
theorem resR_fits (b : Adr) (s : Bs) : (resR b s).1.Fits := by
  have hz : Adr.zero.Fits := ⟨by simp, by simp, by simp, by simp, by simp, by simp⟩
  unfold resR
  split
  · exact hz
  split
  · exact hz
  generalize resP b (lkTrim s) = x
  unfold resF
  split
  · exact hz
  split
  · exact hz
  · rename_i h
    obtain ⟨q1, q2, q3, q4, q5, q6⟩ := chk_parts (Classical.not_not.1 h)
    have hu := undot_len x.1.path
    exact ⟨by simp only; omega, by simp only; omega, by simp only; omega, by simp only; omega, by simp only; omega, by simp only; omega⟩
theorem base_fits {m : List Tk} {a : Adr} (ha : a.Fits) : ∀ n i, m.length - i ≤ n → (baseAt m a i).Fits := by
  intro n
  induction n with
  | zero => intro i hi; rw [baseAt, if_neg (by omega)]; exact ha
  | succ n ih =>
    intro i hi
    rw [baseAt]
    split
    · split
      · split
        · exact resR_fits _ _
        · exact ha
      · exact ih (i + 1) (by omega)
    · exact ha
theorem links_ok (p : Bs) (m : List Tk) (a : Adr) (ha : a.Fits) (hm : TkIn p m) : FnOk Tryz.prog 23 [str p, tokSu m, adrD a] (lnkSl (linksR p a m)) := by
  refine fnOk Tryz.func23 rfl (by kernel_rfl) Tryz.ntmps23 _ rfl (by simp) fun C hc => ?_
  have hB := base_ok m a ha hm.fit
  have hbf : (baseAt m a 0).Fits := base_fits ha m.length 0 (by omega)
  obtain ⟨hpl, hf, hin, hpa⟩ := hm
  have hml := hf.len
  unfold linksR
  generalize baseAt m a 0 = b at hB hbf ⊢
  repeat' (first | (first | refine Ya ?_ | refine Yb ?_ | refine Yc ?_ | refine Yd ?_ | refine Ye ?_ | refine Yf ?_ | refine Yg ?_ | refine Yh ?_ | refine Yi ?_ | refine Yj ?_ | refine Yk ?_ | refine Yl ?_ | refine Ym ?_ | refine Yn ?_ | refine Yo ?_ | refine Yp (h := ?_) | refine Yq ?_ | refine Yr ?_ | refine Ys ?_ | refine Zr hc (hk := ?_) | refine Zd hc (hk := ?_) | (refine Zc (ht := fun hb => ?_) (hf := fun hb => ?_) <;> (try simp at hb)) | fail) | (refine run_drawT 4 hc (by kernel_rfl) (by kernel_rfl) ?_; try simp only [List.take_succ_cons, List.take_zero, List.drop_succ_cons, List.drop_zero]) | (first | refine Zw hc (hf := by exact hB) (hk := ?_) | refine Zq hc (hf := by exact hB) (hk := ?_) | refine Zo hc (hk := ?_) | refine Zu hc (hk := ?_) | refine Ze hc (hk := ?_) | refine Zn hc (hk := ?_) | fail))
  refine ewp_loop (fun x : Nat × List Lnk => ⟨[(0, .d (str p)), (1, .d (tokSu m)), (6, .d nilSl), (7, .bp 23 0), (24, .d (tokSu m)), (25, .d (int m.length)), (26, .d (int x.1))], fnd 23 40000 a b x.2⟩) (fun x => x.1 ≤ m.length ∧ x.2 = allLs p a b m x.1 ∧ stopAt p a b m 0 = stopAt p a b m x.1 ∧ x.2.length ≤ 5000) (fun x => m.length - x.1) (0, []) (by simp [allLs]) (run_keepB [(23, some 16, 40000, 33, dfL)] [0, 1, 6, 7, 24, 25, 26] [23, 40000] (by simp; exact Gives.mk) (by simp; exact Gives.mk) (by simp; exact Gives.mk)) ?_
  clear hB
  rintro ⟨i, M0⟩ ⟨hi, hA, hS0, hM0⟩
  simp only at hi hA hS0 hM0 ⊢
  have hstp : stopAt p a b m i = if i < m.length then (if 5000 < (allLs p a b m (i + 1)).length then i + 1 else stopAt p a b m (i + 1)) else m.length := by rw [stopAt]
  by_cases hil : i < m.length
  · have hS := styleText_ok m i hml hil
    obtain ⟨ht0, ht1⟩ := hin i hil
    have ht2 := hf.atts i
    have ht3 := hf.vals i
    have hpl2 := hpa i
    have hI := inStyle_ok (cutB p ((m[i]?.getD Tk.none).fr, (m[i]?.getD Tk.none).til)) (Nat.le_trans (cutB_len _ _) hpl)
    have hO0 := inS_ord (cutB p ((m[i]?.getD Tk.none).fr, (m[i]?.getD Tk.none).til)) 0 (Nat.zero_le _)
    have lX0 := inS_lenL (cutB p ((m[i]?.getD Tk.none).fr, (m[i]?.getD Tk.none).til)) 0
    have hsl : styLs p a b m i = if styTx m i = true then (inS (cutB p ((m[i]?.getD Tk.none).fr, (m[i]?.getD Tk.none).til)) 0).map (fun x => addL a b 9 (cutB p ((m[i]?.getD Tk.none).fr + x.1, (m[i]?.getD Tk.none).fr + x.2)) ((m[i]?.getD Tk.none).fr + x.1) ((m[i]?.getD Tk.none).fr + x.2)) else [] := rfl
    have lcut : (cutB p ((m[i]?.getD Tk.none).fr, (m[i]?.getD Tk.none).til)).length = (m[i]?.getD Tk.none).til - (m[i]?.getD Tk.none).fr := by simp [cutB]; omega
    generalize inS (cutB p ((m[i]?.getD Tk.none).fr, (m[i]?.getD Tk.none).til)) 0 = X0 at hI hO0 lX0 hsl
    by_cases hst : styTx m i = true
    · rw [hst] at hS hsl
      rw [if_pos rfl] at hsl
      repeat' (first | (first | refine Ya ?_ | refine Yb ?_ | refine Yc ?_ | refine Yd ?_ | refine Ye ?_ | refine Yf ?_ | refine Yg ?_ | refine Yh ?_ | refine Yi ?_ | refine Yj ?_ | refine Yk ?_ | refine Yl ?_ | refine Ym ?_ | refine Yn ?_ | refine Yo ?_ | refine Yp (h := ?_) | refine Yq ?_ | refine Yr ?_ | refine Ys ?_ | refine Zr hc (hk := ?_) | refine Zd hc (hk := ?_) | (refine Zc (ht := fun hb => ?_) (hf := fun hb => ?_) <;> (try simp at hb)) | fail) | (first | refine Zw hc (hf := by first | exact hS | exact hI) (hk := ?_) | refine Zq hc (hf := by first | exact hS | exact hI) (hk := ?_) | refine Zo hc (hk := ?_) | refine Zu hc (hk := ?_) | refine Ze hc (hk := ?_) | refine Zn hc (hk := ?_) | fail))
      all_goals try contradiction
      all_goals try (exfalso; omega)
      clear hS hI
      generalize htt : m[i]?.getD Tk.none = t at *
      refine ewp_loop (fun x : Nat × List Lnk => ⟨[(0, .d (str p)), (1, .d (tokSu m)), (6, .d nilSl), (7, .bp 23 0), (8, .d (int i)), (9, .bp 9 0), (24, .d (tokSu m)), (25, .d (int m.length)), (26, .d (int i)), (42, .d (spSl X0)), (43, .d (int X0.length)), (44, .d (int x.1))], (9, .box 96 [.d (int t.kind), .d (int t.fr), .d (int t.til), .d (str t.name), .d (attSl t.atts)]) :: fnd 23 40000 a b x.2⟩) (fun x => x.1 ≤ X0.length ∧ x.2 = M0 ++ (X0.take x.1).map fun x => addL a b 9 (cutB p (t.fr + x.1, t.fr + x.2)) (t.fr + x.1) (t.fr + x.2)) (fun x => X0.length - x.1) (0, M0) (by simp) (run_back [0, 1, 6, 7, 8, 9, 24, 25, 26, 42, 43, 44] [9, 23, 40000] (by simp; exact Gives.mk) (by simp; exact Gives.mk) (by simp)) ?_
      rintro ⟨j, N⟩ ⟨hj, hN⟩
      simp only at hj hN ⊢
      have lN : N.length ≤ 5000 + j := by rw [hN]; simp; omega
      by_cases hjl : j < X0.length
      · have hx := hO0.get j hjl
        have hcl := cutB_len p (t.fr + (X0[j]?.getD (0, 0)).1, t.fr + (X0[j]?.getD (0, 0)).2)
        have hn := styJ_next p a b t.fr X0 j hjl
        have hadd := add_ok a b ha hbf N 9 (cutB p (t.fr + (X0[j]?.getD (0, 0)).1, t.fr + (X0[j]?.getD (0, 0)).2)) (t.fr + (X0[j]?.getD (0, 0)).1) (t.fr + (X0[j]?.getD (0, 0)).2) (by omega) (by omega) (by omega)
        generalize hnew : addL a b 9 (cutB p (t.fr + (X0[j]?.getD (0, 0)).1, t.fr + (X0[j]?.getD (0, 0)).2)) (t.fr + (X0[j]?.getD (0, 0)).1) (t.fr + (X0[j]?.getD (0, 0)).2) = new at hn hadd
        repeat' (first | (first | refine Ya ?_ | refine Yb ?_ | refine Yc ?_ | refine Yd ?_ | refine Ye ?_ | refine Yf ?_ | refine Yg ?_ | refine Yh ?_ | refine Yi ?_ | refine Yj ?_ | refine Yk ?_ | refine Yl ?_ | refine Ym ?_ | refine Yn ?_ | refine Yo ?_ | refine Yp (h := ?_) | refine Yq ?_ | refine Yr ?_ | refine Ys ?_ | refine Zr hc (hk := ?_) | refine Zd hc (hk := ?_) | (refine Zc (ht := fun hb => ?_) (hf := fun hb => ?_) <;> (try simp at hb)) | fail) | (refine run_drawT 8 hc (by kernel_rfl) (by kernel_rfl) ?_; try simp only [List.take_succ_cons, List.take_zero, List.drop_succ_cons, List.drop_zero]) | (first | refine Zo hc (hk := ?_) | refine Zu hc (hk := ?_) | refine Ze hc (hk := ?_) | refine Zn hc (hk := ?_) | fail) | (first | refine run_callM ([(100000, 23), (50001, 40000)]) (hadd) hc (by simp; exact Gives.mk) (by simp; exact Gives.mk) (by simp; exact Gives.mk) (by simp; exact Gives.mk) (by simp; exact Gives.mk) rfl (by simp; exact Gives.mk) (by simp; exact Gives.mk) rfl (by simp) (by simp) (by simp; exact Gives.mk) (by simp; exact Gives.mk) ?_ | fail))
        all_goals try (exfalso; omega)
        exact ⟨(j + 1, N ++ [new]), ⟨by simp only; omega, by simp only; rw [hn, ← List.append_assoc, ← hN]⟩, by simp only; omega, run_back [0, 1, 6, 7, 8, 9, 24, 25, 26, 42, 43, 44] [9, 23, 40000] (by simp; exact Gives.mk) (by simp; exact Gives.mk) (by simp)⟩
      · obtain rfl : j = X0.length := by omega
        rw [List.take_length] at hN
        rw [← hsl] at hN
        have lM1 : N.length ≤ 205000 := by omega
        repeat' (first | (first | refine Ya ?_ | refine Yb ?_ | refine Yc ?_ | refine Yd ?_ | refine Ye ?_ | refine Yf ?_ | refine Yg ?_ | refine Yh ?_ | refine Yi ?_ | refine Yj ?_ | refine Yk ?_ | refine Yl ?_ | refine Ym ?_ | refine Yn ?_ | refine Yo ?_ | refine Yp (h := ?_) | refine Yq ?_ | refine Yr ?_ | refine Ys ?_ | refine Zr hc (hk := ?_) | refine Zd hc (hk := ?_) | (refine Zc (ht := fun hb => ?_) (hf := fun hb => ?_) <;> (try simp at hb)) | fail) | (first | refine Zo hc (hk := ?_) | refine Zu hc (hk := ?_) | refine Ze hc (hk := ?_) | refine Zn hc (hk := ?_) | fail))
        all_goals try (exfalso; omega)
        clear hO0 lX0 hjl hj lN lcut
        clear hsl
        generalize hMe : N = M1 at *
        have hM1 := hN
        clear hMe
        refine ewp_loop (fun x : Nat × List Lnk => ⟨[(0, .d (str p)), (1, .d (tokSu m)), (6, .d nilSl), (7, .bp 23 0), (8, .d (int i)), (9, .bp 9 0), (24, .d (tokSu m)), (25, .d (int m.length)), (26, .d (int i)), (72, .d (attSl t.atts)), (73, .d (int t.atts.length)), (74, .d (int x.1))], (9, .box 96 [.d (int t.kind), .d (int t.fr), .d (int t.til), .d (str t.name), .d (attSl t.atts)]) :: fnd 23 40000 a b x.2⟩) (fun x => x.1 ≤ t.atts.length ∧ x.2 = M1 ++ attsLs a b t x.1) (fun x => t.atts.length - x.1) (0, M1) (by simp [attsLs]) (run_back [0, 1, 6, 7, 8, 9, 24, 25, 26, 72, 73, 74] [9, 23, 40000] (by simp; exact Gives.mk) (by simp; exact Gives.mk) (by simp)) ?_
        rintro ⟨k, M⟩ ⟨hk, hM⟩
        simp only at hk hM ⊢
        have lA := attsLs_len a b t ht3 k
        have lM : M.length ≤ 50000000000 := by
          have lk2 : k * 200002 ≤ 40000400000 := by omega
          rw [hM, List.length_append]
          omega
        clear lA
        by_cases hkl : k < t.atts.length
        · have hmem : (t.atts[k]?.getD Atr.none) ∈ t.atts := by rw [List.getElem?_eq_getElem hkl]; exact List.getElem_mem hkl
          have hkd : t.kind = 2 := Classical.byContradiction fun e => by rw [hpl2 e] at hkl; simp at hkl
          have hav := ht3 _ hmem
          have hK := kindOf_ok t (t.atts[k]?.getD Atr.none).name (isStyle_ok t ht2 ht3)
          have hF := isFirst_ok t k ht2 hkl
          have hke := kindF_le (isStyB t.atts) (t.atts[k]?.getD Atr.none).name t.name
          have hke2 : kindB t (t.atts[k]?.getD Atr.none).name ≤ 9 := hke
          have hSp := spans_ok (kindB t (t.atts[k]?.getD Atr.none).name) (t.atts[k]?.getD Atr.none).val hke2 hav
          have hnx : attsLs a b t (k + 1) = attsLs a b t k ++ attLs a b t k := rfl
          have hO := spansF_ord (kindB t (t.atts[k]?.getD Atr.none).name) (t.atts[k]?.getD Atr.none).val
          have lX := spansF_len (kindB t (t.atts[k]?.getD Atr.none).name) (t.atts[k]?.getD Atr.none).val
          have hat : attLs a b t k = if kindB t (t.atts[k]?.getD Atr.none).name ≠ 0 ∧ firstB t.atts k = true then (spansF (kindB t (t.atts[k]?.getD Atr.none).name) (t.atts[k]?.getD Atr.none).val).map (fun x => addL a b (kindB t (t.atts[k]?.getD Atr.none).name) (cutB (t.atts[k]?.getD Atr.none).val x) (t.atts[k]?.getD Atr.none).fr (t.atts[k]?.getD Atr.none).til) else [] := by
            unfold attLs hasL
            simp only [hkd, Bool.and_eq_true, decide_eq_true_eq, true_and]
          generalize kindB t (t.atts[k]?.getD Atr.none).name = kd at hK hke2 hSp hO lX hat
          generalize firstB t.atts k = fb at hF hat
          generalize hX : spansF kd (t.atts[k]?.getD Atr.none).val = X at hSp hO lX hat
          clear hke
          by_cases hk0 : kd = 0
          · rw [if_neg (fun h => h.1 hk0)] at hat
            repeat' (first | (first | refine Ya ?_ | refine Yb ?_ | refine Yc ?_ | refine Yd ?_ | refine Ye ?_ | refine Yf ?_ | refine Yg ?_ | refine Yh ?_ | refine Yi ?_ | refine Yj ?_ | refine Yk ?_ | refine Yl ?_ | refine Ym ?_ | refine Yn ?_ | refine Yo ?_ | refine Yp (h := ?_) | refine Yq ?_ | refine Yr ?_ | refine Ys ?_ | refine Zr hc (hk := ?_) | refine Zd hc (hk := ?_) | (refine Zc (ht := fun hb => ?_) (hf := fun hb => ?_) <;> (try simp at hb)) | fail) | (first | refine Zw hc (hf := by first | exact hK | exact hF) (hk := ?_) | refine Zq hc (hf := by first | exact hK | exact hF) (hk := ?_) | refine Zo hc (hk := ?_) | refine Zu hc (hk := ?_) | refine Ze hc (hk := ?_) | fail))
            all_goals try contradiction
            all_goals try (exfalso; omega)
            exact ⟨(k + 1, M), ⟨by simp only; omega, by simp only [hnx, hat, List.append_nil]; exact hM⟩, by simp only; omega, run_back [0, 1, 6, 7, 8, 9, 24, 25, 26, 72, 73, 74] [9, 23, 40000] (by simp; exact Gives.mk) (by simp; exact Gives.mk) (by simp)⟩
          cases fb with
          | false =>
            rw [if_neg (fun h => by cases h.2)] at hat
            repeat' (first | (first | refine Ya ?_ | refine Yb ?_ | refine Yc ?_ | refine Yd ?_ | refine Ye ?_ | refine Yf ?_ | refine Yg ?_ | refine Yh ?_ | refine Yi ?_ | refine Yj ?_ | refine Yk ?_ | refine Yl ?_ | refine Ym ?_ | refine Yn ?_ | refine Yo ?_ | refine Yp (h := ?_) | refine Yq ?_ | refine Yr ?_ | refine Ys ?_ | refine Zr hc (hk := ?_) | refine Zd hc (hk := ?_) | (refine Zc (ht := fun hb => ?_) (hf := fun hb => ?_) <;> (try simp at hb)) | fail) | (first | refine Zw hc (hf := by first | exact hK | exact hF) (hk := ?_) | refine Zq hc (hf := by first | exact hK | exact hF) (hk := ?_) | refine Zo hc (hk := ?_) | refine Zu hc (hk := ?_) | refine Ze hc (hk := ?_) | refine Zn hc (hk := ?_) | fail))
            all_goals try contradiction
            all_goals try (exfalso; omega)
            exact ⟨(k + 1, M), ⟨by simp only; omega, by simp only [hnx, hat, List.append_nil]; exact hM⟩, by simp only; omega, run_back [0, 1, 6, 7, 8, 9, 24, 25, 26, 72, 73, 74] [9, 23, 40000] (by simp; exact Gives.mk) (by simp; exact Gives.mk) (by simp)⟩
          | true =>
            rw [if_pos ⟨hk0, rfl⟩] at hat
            repeat' (first | (first | refine Ya ?_ | refine Yb ?_ | refine Yc ?_ | refine Yd ?_ | refine Ye ?_ | refine Yf ?_ | refine Yg ?_ | refine Yh ?_ | refine Yi ?_ | refine Yj ?_ | refine Yk ?_ | refine Yl ?_ | refine Ym ?_ | refine Yn ?_ | refine Yo ?_ | refine Yp (h := ?_) | refine Yq ?_ | refine Yr ?_ | refine Ys ?_ | refine Zr hc (hk := ?_) | refine Zd hc (hk := ?_) | (refine Zc (ht := fun hb => ?_) (hf := fun hb => ?_) <;> (try simp at hb)) | fail) | (first | refine Zw hc (hf := by first | exact hK | exact hF | exact hSp) (hk := ?_) | refine Zq hc (hf := by first | exact hK | exact hF | exact hSp) (hk := ?_) | refine Zo hc (hk := ?_) | refine Zu hc (hk := ?_) | refine Ze hc (hk := ?_) | refine Zn hc (hk := ?_) | fail))
            all_goals try contradiction
            all_goals try (exfalso; omega)
            refine ewp_loop (fun x : Nat × List Lnk => ⟨[(0, .d (str p)), (1, .d (tokSu m)), (6, .d nilSl), (7, .bp 23 0), (8, .d (int i)), (9, .bp 9 0), (14, .bp 14 0), (15, .d (int kd)), (24, .d (tokSu m)), (25, .d (int m.length)), (26, .d (int i)), (72, .d (attSl t.atts)), (73, .d (int t.atts.length)), (74, .d (int k)), (99, .d (spSl X)), (100, .d (int X.length)), (101, .d (int x.1))], (9, .box 96 [.d (int t.kind), .d (int t.fr), .d (int t.til), .d (str t.name), .d (attSl t.atts)]) :: (14, .box 99 [.d (str (t.atts[k]?.getD Atr.none).name), .d (str (t.atts[k]?.getD Atr.none).val), .d (int (t.atts[k]?.getD Atr.none).fr), .d (int (t.atts[k]?.getD Atr.none).til), .d (tru (t.atts[k]?.getD Atr.none).has)]) :: fnd 23 40000 a b x.2⟩) (fun x => x.1 ≤ X.length ∧ x.2 = M ++ (X.take x.1).map fun x => addL a b kd (cutB (t.atts[k]?.getD Atr.none).val x) (t.atts[k]?.getD Atr.none).fr (t.atts[k]?.getD Atr.none).til) (fun x => X.length - x.1) (0, M) (by simp) (run_back [0, 1, 6, 7, 8, 9, 14, 15, 24, 25, 26, 72, 73, 74, 99, 100, 101] [9, 14, 23, 40000] (by simp; exact Gives.mk) (by simp; exact Gives.mk) (by simp)) ?_
            clear hK hF hSp
            rintro ⟨j, N⟩ ⟨hj, hN⟩
            simp only at hj hN ⊢
            have lN : N.length ≤ M.length + 200002 := by rw [hN]; simp; omega
            by_cases hjl : j < X.length
            · have hx := hO.get j hjl
              have hcl := cutB_len (t.atts[k]?.getD Atr.none).val (X[j]?.getD (0, 0))
              have hn := attJ_next a b kd (t.atts[k]?.getD Atr.none).val (t.atts[k]?.getD Atr.none).fr (t.atts[k]?.getD Atr.none).til X j hjl
              have hadd := add_ok a b ha hbf N kd (cutB (t.atts[k]?.getD Atr.none).val (X[j]?.getD (0, 0))) (t.atts[k]?.getD Atr.none).fr (t.atts[k]?.getD Atr.none).til (by omega) (by omega) hke2
              generalize hnew : addL a b kd (cutB (t.atts[k]?.getD Atr.none).val (X[j]?.getD (0, 0))) (t.atts[k]?.getD Atr.none).fr (t.atts[k]?.getD Atr.none).til = new at hn hadd
              repeat' (first | (first | refine Ya ?_ | refine Yb ?_ | refine Yc ?_ | refine Yd ?_ | refine Ye ?_ | refine Yf ?_ | refine Yg ?_ | refine Yh ?_ | refine Yi ?_ | refine Yj ?_ | refine Yk ?_ | refine Yl ?_ | refine Ym ?_ | refine Yn ?_ | refine Yo ?_ | refine Yp (h := ?_) | refine Yq ?_ | refine Yr ?_ | refine Ys ?_ | refine Zr hc (hk := ?_) | refine Zd hc (hk := ?_) | (refine Zc (ht := fun hb => ?_) (hf := fun hb => ?_) <;> (try simp at hb)) | fail) | (refine run_drawT 11 hc (by kernel_rfl) (by kernel_rfl) ?_; try simp only [List.take_succ_cons, List.take_zero, List.drop_succ_cons, List.drop_zero]) | (first | refine Zo hc (hk := ?_) | refine Zu hc (hk := ?_) | refine Ze hc (hk := ?_) | refine Zn hc (hk := ?_) | fail) | (first | refine run_callM ([(100000, 23), (50001, 40000)]) (hadd) hc (by simp; exact Gives.mk) (by simp; exact Gives.mk) (by simp; exact Gives.mk) (by simp; exact Gives.mk) (by simp; exact Gives.mk) rfl (by simp; exact Gives.mk) (by simp; exact Gives.mk) rfl (by simp) (by simp) (by simp; exact Gives.mk) (by simp; exact Gives.mk) ?_ | fail))
              all_goals try (exfalso; omega)
              exact ⟨(j + 1, N ++ [new]), ⟨by simp only; omega, by simp only; rw [hn, ← List.append_assoc, ← hN]⟩, by simp only; omega, run_back [0, 1, 6, 7, 8, 9, 14, 15, 24, 25, 26, 72, 73, 74, 99, 100, 101] [9, 14, 23, 40000] (by simp; exact Gives.mk) (by simp; exact Gives.mk) (by simp)⟩
            · obtain rfl : j = X.length := by omega
              rw [List.take_length] at hN
              rw [← hat] at hN
              repeat' (first | (first | refine Ya ?_ | refine Yb ?_ | refine Yc ?_ | refine Yd ?_ | refine Ye ?_ | refine Yf ?_ | refine Yg ?_ | refine Yh ?_ | refine Yi ?_ | refine Yj ?_ | refine Yk ?_ | refine Yl ?_ | refine Ym ?_ | refine Yn ?_ | refine Yo ?_ | refine Yp (h := ?_) | refine Yq ?_ | refine Yr ?_ | refine Ys ?_ | refine Zr hc (hk := ?_) | refine Zd hc (hk := ?_) | (refine Zc (ht := fun hb => ?_) (hf := fun hb => ?_) <;> (try simp at hb)) | fail) | (first | refine Zo hc (hk := ?_) | refine Zu hc (hk := ?_) | refine Ze hc (hk := ?_) | refine Zn hc (hk := ?_) | fail))
              all_goals try (exfalso; omega)
              exact ⟨(k + 1, N), ⟨by simp only; omega, by simp only; rw [hnx, ← List.append_assoc, ← hM]; exact hN⟩, by simp only; omega, run_back [0, 1, 6, 7, 8, 9, 24, 25, 26, 72, 73, 74] [9, 23, 40000] (by simp; exact Gives.mk) (by simp; exact Gives.mk) (by simp)⟩
        · obtain rfl : k = t.atts.length := by omega
          have hfin : allLs p a b m (i + 1) = M := by
            show allLs p a b m i ++ tokLs p a b m i = M
            unfold tokLs
            rw [hM, htt, ← hA, ← List.append_assoc, ← hM1]
          repeat' (first | (first | refine Ya ?_ | refine Yb ?_ | refine Yc ?_ | refine Yd ?_ | refine Ye ?_ | refine Yf ?_ | refine Yg ?_ | refine Yh ?_ | refine Yi ?_ | refine Yj ?_ | refine Yk ?_ | refine Yl ?_ | refine Ym ?_ | refine Yn ?_ | refine Yo ?_ | refine Yp (h := ?_) | refine Yq ?_ | refine Yr ?_ | refine Ys ?_ | refine Zr hc (hk := ?_) | refine Zd hc (hk := ?_) | (refine Zc (ht := fun hb => ?_) (hf := fun hb => ?_) <;> (try simp at hb)) | fail) | (first | refine Zo hc (hk := ?_) | refine Zu hc (hk := ?_) | refine Ze hc (hk := ?_) | refine Zn hc (hk := ?_) | fail))
          all_goals try (exfalso; omega)
          · rw [hS0, hstp, if_pos hil, if_pos (by rw [hfin]; omega), hfin]
            (refine Zl hc (hr := ?_))
            simp
          · exact ⟨(i + 1, M), ⟨by simp only; omega, hfin.symm, by rw [hS0, hstp, if_pos hil, if_neg (by rw [hfin]; omega)], by simp only; omega⟩, by simp only; omega, run_back [0, 1, 6, 7, 24, 25, 26] [23, 40000] (by simp; exact Gives.mk) (by simp; exact Gives.mk) (by simp)⟩
    · rw [Bool.eq_false_iff.2 hst] at hS
      rw [if_neg hst] at hsl
      repeat' (first | (first | refine Ya ?_ | refine Yb ?_ | refine Yc ?_ | refine Yd ?_ | refine Ye ?_ | refine Yf ?_ | refine Yg ?_ | refine Yh ?_ | refine Yi ?_ | refine Yj ?_ | refine Yk ?_ | refine Yl ?_ | refine Ym ?_ | refine Yn ?_ | refine Yo ?_ | refine Yp (h := ?_) | refine Yq ?_ | refine Yr ?_ | refine Ys ?_ | refine Zr hc (hk := ?_) | refine Zd hc (hk := ?_) | (refine Zc (ht := fun hb => ?_) (hf := fun hb => ?_) <;> (try simp at hb)) | fail) | (first | refine Zw hc (hf := by exact hS) (hk := ?_) | refine Zq hc (hf := by exact hS) (hk := ?_) | refine Zo hc (hk := ?_) | refine Zu hc (hk := ?_) | refine Ze hc (hk := ?_) | refine Zn hc (hk := ?_) | fail))
      all_goals try contradiction
      all_goals try (exfalso; omega)
      clear hS hI
      generalize htt : m[i]?.getD Tk.none = t at *
      obtain ⟨M1, hM1', lM1⟩ : ∃ M1, M0 = M1 ∧ M1.length ≤ 205000 := ⟨M0, rfl, by omega⟩
      have hM1 : M1 = M0 ++ styLs p a b m i := by rw [hsl, List.append_nil]; exact hM1'.symm
      rw [hM1']
      clear hO0 lX0 lcut hsl
      refine ewp_loop (fun x : Nat × List Lnk => ⟨[(0, .d (str p)), (1, .d (tokSu m)), (6, .d nilSl), (7, .bp 23 0), (8, .d (int i)), (9, .bp 9 0), (24, .d (tokSu m)), (25, .d (int m.length)), (26, .d (int i)), (72, .d (attSl t.atts)), (73, .d (int t.atts.length)), (74, .d (int x.1))], (9, .box 96 [.d (int t.kind), .d (int t.fr), .d (int t.til), .d (str t.name), .d (attSl t.atts)]) :: fnd 23 40000 a b x.2⟩) (fun x => x.1 ≤ t.atts.length ∧ x.2 = M1 ++ attsLs a b t x.1) (fun x => t.atts.length - x.1) (0, M1) (by simp [attsLs]) (run_back [0, 1, 6, 7, 8, 9, 24, 25, 26, 72, 73, 74] [9, 23, 40000] (by simp; exact Gives.mk) (by simp; exact Gives.mk) (by simp)) ?_
      rintro ⟨k, M⟩ ⟨hk, hM⟩
      simp only at hk hM ⊢
      have lA := attsLs_len a b t ht3 k
      have lM : M.length ≤ 50000000000 := by
        have lk2 : k * 200002 ≤ 40000400000 := by omega
        rw [hM, List.length_append]
        omega
      clear lA
      by_cases hkl : k < t.atts.length
      · have hmem : (t.atts[k]?.getD Atr.none) ∈ t.atts := by rw [List.getElem?_eq_getElem hkl]; exact List.getElem_mem hkl
        have hkd : t.kind = 2 := Classical.byContradiction fun e => by rw [hpl2 e] at hkl; simp at hkl
        have hav := ht3 _ hmem
        have hK := kindOf_ok t (t.atts[k]?.getD Atr.none).name (isStyle_ok t ht2 ht3)
        have hF := isFirst_ok t k ht2 hkl
        have hke := kindF_le (isStyB t.atts) (t.atts[k]?.getD Atr.none).name t.name
        have hke2 : kindB t (t.atts[k]?.getD Atr.none).name ≤ 9 := hke
        have hSp := spans_ok (kindB t (t.atts[k]?.getD Atr.none).name) (t.atts[k]?.getD Atr.none).val hke2 hav
        have hnx : attsLs a b t (k + 1) = attsLs a b t k ++ attLs a b t k := rfl
        have hO := spansF_ord (kindB t (t.atts[k]?.getD Atr.none).name) (t.atts[k]?.getD Atr.none).val
        have lX := spansF_len (kindB t (t.atts[k]?.getD Atr.none).name) (t.atts[k]?.getD Atr.none).val
        have hat : attLs a b t k = if kindB t (t.atts[k]?.getD Atr.none).name ≠ 0 ∧ firstB t.atts k = true then (spansF (kindB t (t.atts[k]?.getD Atr.none).name) (t.atts[k]?.getD Atr.none).val).map (fun x => addL a b (kindB t (t.atts[k]?.getD Atr.none).name) (cutB (t.atts[k]?.getD Atr.none).val x) (t.atts[k]?.getD Atr.none).fr (t.atts[k]?.getD Atr.none).til) else [] := by
          unfold attLs hasL
          simp only [hkd, Bool.and_eq_true, decide_eq_true_eq, true_and]
        generalize kindB t (t.atts[k]?.getD Atr.none).name = kd at hK hke2 hSp hO lX hat
        generalize firstB t.atts k = fb at hF hat
        generalize hX : spansF kd (t.atts[k]?.getD Atr.none).val = X at hSp hO lX hat
        clear hke
        by_cases hk0 : kd = 0
        · rw [if_neg (fun h => h.1 hk0)] at hat
          repeat' (first | (first | refine Ya ?_ | refine Yb ?_ | refine Yc ?_ | refine Yd ?_ | refine Ye ?_ | refine Yf ?_ | refine Yg ?_ | refine Yh ?_ | refine Yi ?_ | refine Yj ?_ | refine Yk ?_ | refine Yl ?_ | refine Ym ?_ | refine Yn ?_ | refine Yo ?_ | refine Yp (h := ?_) | refine Yq ?_ | refine Yr ?_ | refine Ys ?_ | refine Zr hc (hk := ?_) | refine Zd hc (hk := ?_) | (refine Zc (ht := fun hb => ?_) (hf := fun hb => ?_) <;> (try simp at hb)) | fail) | (first | refine Zw hc (hf := by first | exact hK | exact hF) (hk := ?_) | refine Zq hc (hf := by first | exact hK | exact hF) (hk := ?_) | refine Zo hc (hk := ?_) | refine Zu hc (hk := ?_) | refine Ze hc (hk := ?_) | fail))
          all_goals try contradiction
          all_goals try (exfalso; omega)
          exact ⟨(k + 1, M), ⟨by simp only; omega, by simp only [hnx, hat, List.append_nil]; exact hM⟩, by simp only; omega, run_back [0, 1, 6, 7, 8, 9, 24, 25, 26, 72, 73, 74] [9, 23, 40000] (by simp; exact Gives.mk) (by simp; exact Gives.mk) (by simp)⟩
        cases fb with
        | false =>
          rw [if_neg (fun h => by cases h.2)] at hat
          repeat' (first | (first | refine Ya ?_ | refine Yb ?_ | refine Yc ?_ | refine Yd ?_ | refine Ye ?_ | refine Yf ?_ | refine Yg ?_ | refine Yh ?_ | refine Yi ?_ | refine Yj ?_ | refine Yk ?_ | refine Yl ?_ | refine Ym ?_ | refine Yn ?_ | refine Yo ?_ | refine Yp (h := ?_) | refine Yq ?_ | refine Yr ?_ | refine Ys ?_ | refine Zr hc (hk := ?_) | refine Zd hc (hk := ?_) | (refine Zc (ht := fun hb => ?_) (hf := fun hb => ?_) <;> (try simp at hb)) | fail) | (first | refine Zw hc (hf := by first | exact hK | exact hF) (hk := ?_) | refine Zq hc (hf := by first | exact hK | exact hF) (hk := ?_) | refine Zo hc (hk := ?_) | refine Zu hc (hk := ?_) | refine Ze hc (hk := ?_) | refine Zn hc (hk := ?_) | fail))
          all_goals try contradiction
          all_goals try (exfalso; omega)
          exact ⟨(k + 1, M), ⟨by simp only; omega, by simp only [hnx, hat, List.append_nil]; exact hM⟩, by simp only; omega, run_back [0, 1, 6, 7, 8, 9, 24, 25, 26, 72, 73, 74] [9, 23, 40000] (by simp; exact Gives.mk) (by simp; exact Gives.mk) (by simp)⟩
        | true =>
          rw [if_pos ⟨hk0, rfl⟩] at hat
          repeat' (first | (first | refine Ya ?_ | refine Yb ?_ | refine Yc ?_ | refine Yd ?_ | refine Ye ?_ | refine Yf ?_ | refine Yg ?_ | refine Yh ?_ | refine Yi ?_ | refine Yj ?_ | refine Yk ?_ | refine Yl ?_ | refine Ym ?_ | refine Yn ?_ | refine Yo ?_ | refine Yp (h := ?_) | refine Yq ?_ | refine Yr ?_ | refine Ys ?_ | refine Zr hc (hk := ?_) | refine Zd hc (hk := ?_) | (refine Zc (ht := fun hb => ?_) (hf := fun hb => ?_) <;> (try simp at hb)) | fail) | (first | refine Zw hc (hf := by first | exact hK | exact hF | exact hSp) (hk := ?_) | refine Zq hc (hf := by first | exact hK | exact hF | exact hSp) (hk := ?_) | refine Zo hc (hk := ?_) | refine Zu hc (hk := ?_) | refine Ze hc (hk := ?_) | refine Zn hc (hk := ?_) | fail))
          all_goals try contradiction
          all_goals try (exfalso; omega)
          refine ewp_loop (fun x : Nat × List Lnk => ⟨[(0, .d (str p)), (1, .d (tokSu m)), (6, .d nilSl), (7, .bp 23 0), (8, .d (int i)), (9, .bp 9 0), (14, .bp 14 0), (15, .d (int kd)), (24, .d (tokSu m)), (25, .d (int m.length)), (26, .d (int i)), (72, .d (attSl t.atts)), (73, .d (int t.atts.length)), (74, .d (int k)), (99, .d (spSl X)), (100, .d (int X.length)), (101, .d (int x.1))], (9, .box 96 [.d (int t.kind), .d (int t.fr), .d (int t.til), .d (str t.name), .d (attSl t.atts)]) :: (14, .box 99 [.d (str (t.atts[k]?.getD Atr.none).name), .d (str (t.atts[k]?.getD Atr.none).val), .d (int (t.atts[k]?.getD Atr.none).fr), .d (int (t.atts[k]?.getD Atr.none).til), .d (tru (t.atts[k]?.getD Atr.none).has)]) :: fnd 23 40000 a b x.2⟩) (fun x => x.1 ≤ X.length ∧ x.2 = M ++ (X.take x.1).map fun x => addL a b kd (cutB (t.atts[k]?.getD Atr.none).val x) (t.atts[k]?.getD Atr.none).fr (t.atts[k]?.getD Atr.none).til) (fun x => X.length - x.1) (0, M) (by simp) (run_back [0, 1, 6, 7, 8, 9, 14, 15, 24, 25, 26, 72, 73, 74, 99, 100, 101] [9, 14, 23, 40000] (by simp; exact Gives.mk) (by simp; exact Gives.mk) (by simp)) ?_
          clear hK hF hSp
          rintro ⟨j, N⟩ ⟨hj, hN⟩
          simp only at hj hN ⊢
          have lN : N.length ≤ M.length + 200002 := by rw [hN]; simp; omega
          by_cases hjl : j < X.length
          · have hx := hO.get j hjl
            have hcl := cutB_len (t.atts[k]?.getD Atr.none).val (X[j]?.getD (0, 0))
            have hn := attJ_next a b kd (t.atts[k]?.getD Atr.none).val (t.atts[k]?.getD Atr.none).fr (t.atts[k]?.getD Atr.none).til X j hjl
            have hadd := add_ok a b ha hbf N kd (cutB (t.atts[k]?.getD Atr.none).val (X[j]?.getD (0, 0))) (t.atts[k]?.getD Atr.none).fr (t.atts[k]?.getD Atr.none).til (by omega) (by omega) hke2
            generalize hnew : addL a b kd (cutB (t.atts[k]?.getD Atr.none).val (X[j]?.getD (0, 0))) (t.atts[k]?.getD Atr.none).fr (t.atts[k]?.getD Atr.none).til = new at hn hadd
            repeat' (first | (first | refine Ya ?_ | refine Yb ?_ | refine Yc ?_ | refine Yd ?_ | refine Ye ?_ | refine Yf ?_ | refine Yg ?_ | refine Yh ?_ | refine Yi ?_ | refine Yj ?_ | refine Yk ?_ | refine Yl ?_ | refine Ym ?_ | refine Yn ?_ | refine Yo ?_ | refine Yp (h := ?_) | refine Yq ?_ | refine Yr ?_ | refine Ys ?_ | refine Zr hc (hk := ?_) | refine Zd hc (hk := ?_) | (refine Zc (ht := fun hb => ?_) (hf := fun hb => ?_) <;> (try simp at hb)) | fail) | (refine run_drawT 11 hc (by kernel_rfl) (by kernel_rfl) ?_; try simp only [List.take_succ_cons, List.take_zero, List.drop_succ_cons, List.drop_zero]) | (first | refine Zo hc (hk := ?_) | refine Zu hc (hk := ?_) | refine Ze hc (hk := ?_) | refine Zn hc (hk := ?_) | fail) | (first | refine run_callM ([(100000, 23), (50001, 40000)]) (hadd) hc (by simp; exact Gives.mk) (by simp; exact Gives.mk) (by simp; exact Gives.mk) (by simp; exact Gives.mk) (by simp; exact Gives.mk) rfl (by simp; exact Gives.mk) (by simp; exact Gives.mk) rfl (by simp) (by simp) (by simp; exact Gives.mk) (by simp; exact Gives.mk) ?_ | fail))
            all_goals try (exfalso; omega)
            exact ⟨(j + 1, N ++ [new]), ⟨by simp only; omega, by simp only; rw [hn, ← List.append_assoc, ← hN]⟩, by simp only; omega, run_back [0, 1, 6, 7, 8, 9, 14, 15, 24, 25, 26, 72, 73, 74, 99, 100, 101] [9, 14, 23, 40000] (by simp; exact Gives.mk) (by simp; exact Gives.mk) (by simp)⟩
          · obtain rfl : j = X.length := by omega
            rw [List.take_length] at hN
            rw [← hat] at hN
            repeat' (first | (first | refine Ya ?_ | refine Yb ?_ | refine Yc ?_ | refine Yd ?_ | refine Ye ?_ | refine Yf ?_ | refine Yg ?_ | refine Yh ?_ | refine Yi ?_ | refine Yj ?_ | refine Yk ?_ | refine Yl ?_ | refine Ym ?_ | refine Yn ?_ | refine Yo ?_ | refine Yp (h := ?_) | refine Yq ?_ | refine Yr ?_ | refine Ys ?_ | refine Zr hc (hk := ?_) | refine Zd hc (hk := ?_) | (refine Zc (ht := fun hb => ?_) (hf := fun hb => ?_) <;> (try simp at hb)) | fail) | (first | refine Zo hc (hk := ?_) | refine Zu hc (hk := ?_) | refine Ze hc (hk := ?_) | refine Zn hc (hk := ?_) | fail))
            all_goals try (exfalso; omega)
            exact ⟨(k + 1, N), ⟨by simp only; omega, by simp only; rw [hnx, ← List.append_assoc, ← hM]; exact hN⟩, by simp only; omega, run_back [0, 1, 6, 7, 8, 9, 24, 25, 26, 72, 73, 74] [9, 23, 40000] (by simp; exact Gives.mk) (by simp; exact Gives.mk) (by simp)⟩
      · obtain rfl : k = t.atts.length := by omega
        have hfin : allLs p a b m (i + 1) = M := by
          show allLs p a b m i ++ tokLs p a b m i = M
          unfold tokLs
          rw [hM, htt, ← hA, ← List.append_assoc, ← hM1]
        repeat' (first | (first | refine Ya ?_ | refine Yb ?_ | refine Yc ?_ | refine Yd ?_ | refine Ye ?_ | refine Yf ?_ | refine Yg ?_ | refine Yh ?_ | refine Yi ?_ | refine Yj ?_ | refine Yk ?_ | refine Yl ?_ | refine Ym ?_ | refine Yn ?_ | refine Yo ?_ | refine Yp (h := ?_) | refine Yq ?_ | refine Yr ?_ | refine Ys ?_ | refine Zr hc (hk := ?_) | refine Zd hc (hk := ?_) | (refine Zc (ht := fun hb => ?_) (hf := fun hb => ?_) <;> (try simp at hb)) | fail) | (first | refine Zo hc (hk := ?_) | refine Zu hc (hk := ?_) | refine Ze hc (hk := ?_) | refine Zn hc (hk := ?_) | fail))
        all_goals try (exfalso; omega)
        · rw [hS0, hstp, if_pos hil, if_pos (by rw [hfin]; omega), hfin]
          (refine Zl hc (hr := ?_))
          simp
        · exact ⟨(i + 1, M), ⟨by simp only; omega, hfin.symm, by rw [hS0, hstp, if_pos hil, if_neg (by rw [hfin]; omega)], by simp only; omega⟩, by simp only; omega, run_back [0, 1, 6, 7, 24, 25, 26] [23, 40000] (by simp; exact Gives.mk) (by simp; exact Gives.mk) (by simp)⟩
  · obtain rfl : i = m.length := by omega
    rw [hS0, hstp, if_neg hil, ← hA]
    repeat' (first | (first | refine Ya ?_ | refine Yb ?_ | refine Yc ?_ | refine Yd ?_ | refine Ye ?_ | refine Yf ?_ | refine Yg ?_ | refine Yh ?_ | refine Yi ?_ | refine Yj ?_ | refine Yk ?_ | refine Yl ?_ | refine Ym ?_ | refine Yn ?_ | refine Yo ?_ | refine Yp (h := ?_) | refine Yq ?_ | refine Yr ?_ | refine Ys ?_ | refine Zr hc (hk := ?_) | refine Zd hc (hk := ?_) | (refine Zc (ht := fun hb => ?_) (hf := fun hb => ?_) <;> (try simp at hb)) | fail) | (first | refine Zo hc (hk := ?_) | refine Zu hc (hk := ?_) | refine Ze hc (hk := ?_) | refine Zn hc (hk := ?_) | fail))
    all_goals try (exfalso; omega)
    (refine Zl hc (hr := ?_))
    simp
end Go.Proofs.YtjbabjfmcganpaaGreatDoor
