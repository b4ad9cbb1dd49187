/-
  POLITE: Polite (both sides). (WITH run_drawN.)
-/
import Derived.Test.YtnainpghpjelcaaGreatDoorPoL
import Derived.Test.YtnainpghpjelcaaGreatDoorFnD
import Derived.Test.YtnainpghpjelcaaGreatDoorFnV
set_option linter.unusedSimpArgs false
set_option linter.unusedVariables false
namespace Go.Proofs.YtnainpghpjelcaaGreatDoor
open Go.Lw Go.RowKit
set_option maxRecDepth 100000
set_option maxHeartbeats 4000000

@[simp] theorem row_i2 (o : Option Int) : (Option.map (fun y => [int y]) o).getD [int 0] = [int (o.getD 0)] := by cases o <;> rfl
abbrev owR (l : List Int) : Nat × O := (40001, .own 3 1 (true, [int 0]) (l.map fun y => [int y]))
theorem frPolite_ok (L : List Ftc) (B : List Dly) (hl : L.length ≤ 9223372036854775807) (hn : ∀ j, (ftcAt L j).1.length ≤ 140737488351232) (hl2 : B.length ≤ 9223372036854775807) (hn2 : ∀ j, (dlyAt B j).1.length ≤ 140737488351232) :
    FnOk Tryz.prog 27 [ftcSl L, dlySl B] (politeD L B) := by
  refine fnOk Tryz.func27 rfl (by kernel_rfl) Tryz.ntmps27 _ rfl (by simp) fun C hc => ?_
  have h1 := frFetches_ok L hl hn
  have h2 := frDelays_ok B hl2 hn2
  unfold politeD
  by_cases he : polE L B = 0
  rotate_left
  · rw [if_pos he]
    unfold polE at he ⊢
    generalize fetE L = e1 at h1 he ⊢
    generalize dlyE B = e2 at h2 he ⊢
    repeat' (first | (first | refine Ya ?_ | refine Yb ?_ | refine Yc ?_ | refine Yd ?_ | refine Ye ?_ | refine Yf ?_ | refine Yg ?_ | refine Yh ?_ | refine Yi ?_ | refine Yj ?_ | refine Yk ?_ | refine Yl ?_ | refine Ym ?_ | refine Yn ?_ | refine Yo ?_ | refine Yp (h := ?_) | refine Yq ?_ | refine Yr ?_ | refine Ys ?_ | refine Zr hc (hk := ?_) | refine Zd hc (hk := ?_) | (refine Zc (ht := fun hb => ?_) (hf := fun hb => ?_) <;> (try simp at hb)) | fail) | (first | refine Zw hc (hf := by first | exact h1 | exact h2) (hk := ?_) | refine Zq hc (hf := by first | exact h1 | exact h2) (hk := ?_) | refine Zo hc (hk := ?_) | refine Zu hc (hk := ?_) | refine Ze hc (hk := ?_) | refine Zn hc (hk := ?_) | fail))
    all_goals try contradiction
    · rw [if_pos hb]
      (refine Zl hc (hr := ?_))
      simp
    · rename_i g
      rw [if_neg (fun h => h g)]
      (refine Zl hc (hr := ?_))
      simp
    · rename_i g
      exact absurd (show (if e1 ≠ 0 then e1 else e2) = 0 by rw [if_neg (fun h => h g)]; exact hb) he
  have ok := polE_good he
  rw [if_neg (fun h => h he)]
  have ee : fetE L = 0 ∧ dlyE B = 0 := by
    unfold polE at he
    by_cases h : fetE L = 0
    · rw [if_neg (fun e => e h)] at he
      exact ⟨h, he⟩
    · rw [if_pos h] at he; exact absurd he h
  rw [ee.1] at h1
  rw [ee.2] at h2
  clear ee he
  have hm := ok.many
  have hfw := ok.few
  repeat' (first | (first | refine Ya ?_ | refine Yb ?_ | refine Yc ?_ | refine Yd ?_ | refine Ye ?_ | refine Yf ?_ | refine Yg ?_ | refine Yh ?_ | refine Yi ?_ | refine Yj ?_ | refine Yk ?_ | refine Yl ?_ | refine Ym ?_ | refine Yn ?_ | refine Yo ?_ | refine Yp (h := ?_) | refine Yq ?_ | refine Yr ?_ | refine Ys ?_ | refine Zr hc (hk := ?_) | refine Zd hc (hk := ?_) | (refine Zc (ht := fun hb => ?_) (hf := fun hb => ?_) <;> (try simp at hb)) | fail) | (first | refine Zw hc (hf := by first | exact h1 | exact h2) (hk := ?_) | refine Zq hc (hf := by first | exact h1 | exact h2) (hk := ?_) | refine Zo hc (hk := ?_) | refine Zu hc (hk := ?_) | refine Ze hc (hk := ?_) | refine Zn hc (hk := ?_) | fail))
  all_goals try contradiction
  refine ewp_loop (fun x : Nat × List (Bs × D) => ⟨[(0, .d (ftcSl L)), (8, .mp 25), (26, .d (dlySl B)), (27, .d (int B.length)), (28, .d (int x.1))], [(25, .dict x.2)]⟩)
    (fun x => x.1 ≤ B.length ∧ ∀ s, dget (.lit (.int .i64 0)) x.2 s = int (dlyOf (B.take x.1) s)) (fun x => B.length - x.1) (0, []) ⟨by simp, by simp [dget, dlyOf]⟩ (run_keep [0, 8, 26, 27, 28] [25] (by simp; exact Gives.mk) (by simp; exact Gives.mk)) ?_
  rintro ⟨j, Ld⟩ ⟨hj, hD⟩
  simp only at hj hD ⊢
  by_cases hlt : j < B.length
  · repeat' (first | (first | refine Ya ?_ | refine Yb ?_ | refine Yc ?_ | refine Yd ?_ | refine Ye ?_ | refine Yf ?_ | refine Yg ?_ | refine Yh ?_ | refine Yi ?_ | refine Yj ?_ | refine Yk ?_ | refine Yl ?_ | refine Ym ?_ | refine Yn ?_ | refine Yo ?_ | refine Yp (h := ?_) | refine Yq ?_ | refine Yr ?_ | refine Ys ?_ | refine Zr hc (hk := ?_) | refine Zd hc (hk := ?_) | (refine Zc (ht := fun hb => ?_) (hf := fun hb => ?_) <;> (try simp at hb)) | fail) | (first | refine Zo hc (hk := ?_) | refine Zu hc (hk := ?_) | refine Ze hc (hk := ?_) | refine Zn hc (hk := ?_) | fail))
    all_goals try contradiction
    all_goals try (exfalso; omega)
    refine ⟨(j + 1, dput Ld (dlyAt B j).1 (int (dlyAt B j).2)), ⟨by simp only; omega, fun s => ?_⟩, by simp only; omega, run_back [0, 8, 26, 27, 28] [25] (by simp; exact Gives.mk) (by simp; exact Gives.mk) (by simp)⟩
    simp only
    rw [dget_put, hD s, dlyOf_next B hlt s]
    split <;> rfl
  obtain rfl : j = B.length := by omega
  rw [List.take_length] at hD
  repeat' (first | (first | refine Ya ?_ | refine Yb ?_ | refine Yc ?_ | refine Yd ?_ | refine Ye ?_ | refine Yf ?_ | refine Yg ?_ | refine Yh ?_ | refine Yi ?_ | refine Yj ?_ | refine Yk ?_ | refine Yl ?_ | refine Ym ?_ | refine Yn ?_ | refine Yo ?_ | refine Yp (h := ?_) | refine Yq ?_ | refine Yr ?_ | refine Ys ?_ | refine Zr hc (hk := ?_) | refine Zd hc (hk := ?_) | (refine Zc (ht := fun hb => ?_) (hf := fun hb => ?_) <;> (try simp at hb)) | fail) | (first | refine Zo hc (hk := ?_) | refine Zu hc (hk := ?_) | refine Ze hc (hk := ?_) | refine Zn hc (hk := ?_) | fail))
  all_goals try contradiction
  all_goals try (exfalso; omega)
  refine ewp_loop (fun x : Nat × List (Bs × D) => ⟨[(8, .mp 25), (11, .mp 38), (12, .os 40001 (rudes B L x.1).length), (39, .d (ftcSl L)), (40, .d (int L.length)), (41, .d (int x.1))], [(25, .dict Ld), (38, .dict x.2), owR (rudes B L x.1)]⟩)
    (fun x => x.1 ≤ L.length ∧ ∀ s, dget (.lit (.int .i64 0)) x.2 s = int (freeOf B (L.take x.1) s)) (fun x => L.length - x.1) (0, []) ⟨by simp, by simp [dget, freeOf]⟩ (run_keepB [(12, none, 40001, 3, [int 0])] [8, 11, 12, 39, 40, 41] [25, 38, 40001] (by simp; exact Gives.mk) (by simp; exact Gives.mk) (by simp; exact Gives.mk)) ?_
  rintro ⟨i, Lf⟩ ⟨hi, hF⟩
  simp only at hi hF ⊢
  have hrl := rudes_len B L i
  by_cases hlt2 : i < L.length
  · have hfi := hF (ftcAt L i).1
    have hdi := hD (ftcAt L i).1
    have hb1 := dlyOf_bd B ok.sec (ftcAt L i).1
    have hb2 := freeOf_bd ok (ftcAt L i).1 i hi
    have hto := ok.to_ i hlt2
    have hfr := ok.from_ i hlt2
    have hrd := rude_free (B := B) (L := L) (i := i) hfr.1
    have hnx := rudes_next B L i
    have hfn := freeOf_next B L hlt2
    unfold okM at hto hfr
    generalize hfr0 : freeOf B (L.take i) (ftcAt L i).1 = fr at hfi hb2 hrd
    generalize hdl : dlyOf B (ftcAt L i).1 = dl at hdi hb1
    generalize rudes B L i = R at hnx hrl ⊢
    generalize rudeB B L i = rb at hrd hnx
    repeat' (first | (first | refine ewp_seq ?_ | refine run_region hc (by simp [hfi, hdi]; exact Ends.go) (by first | exact True.intro | omega | assumption | (simp; done) | (simp; omega) | (simp at *; omega)) ?_ | refine run_draw hc (by kernel_rfl) (by kernel_rfl) (by simp [hfi, hdi]; exact Ends.go) (by first | exact True.intro | omega | assumption | (simp; done) | (simp; omega) | (simp at *; omega)) ?_ | refine ewp_scope ?_ | refine scopeQ_normal ?_ | refine scopeQ_ret ?_ | refine scopeQ_exit ?_ | refine ewp_skip ?_ | refine ewp_block ?_ | refine ewp_exit ?_ | refine ewp_label ?_ | refine thenQ_normal ?_ | refine thenQ_ret ?_ | refine thenQ_exit ?_ | refine blockQ_normal ?_ | refine blockQ_ret ?_ | refine blockQ_here ?_ | refine blockQ_there (by decide) ?_ | refine ewp_ret ?_ | refine opsW_nil ?_ | refine quietW_nil ?_ | (refine run_cond (by simp [hfi, hdi]; exact Gives.mk) (fun hb => ?_) (fun hb => ?_) <;> (try simp at hb)) | fail) | (first | refine run_callW hc (by simp [hfi, hdi]; exact Gives.mk) (by simp [hfi, hdi]; exact Gives.mk) (by simp [hfi, hdi]; exact Gives.mk) (by simp [hfi, hdi]; exact Gives.mk) (by simp [hfi, hdi]; exact Gives.mk) (fun _ => by first | exact trivial) (by simp) (by simp) ?_ | refine run_callQ hc (by simp [hfi, hdi]; exact Gives.mk) (by simp [hfi, hdi]; exact Gives.mk) (by simp [hfi, hdi]; exact Gives.mk) (by simp [hfi, hdi]; exact Gives.mk) (by simp [hfi, hdi]; exact Gives.mk) (fun _ => by first | exact trivial) (by simp) (by simp) ?_ | refine run_ops hc (by simp [hfi, hdi]; first | exact Ends.go | exact Ends.halt) (by decide) (by first | exact True.intro | omega | assumption | (simp; done) | (simp; omega) | (simp at *; omega)) ?_ | refine run_quiet hc (by simp [hfi, hdi]; first | exact Ends.go | exact Ends.halt) (by decide) (by first | exact True.intro | omega | assumption | (simp; done) | (simp; omega) | (simp at *; omega)) ?_ | refine run_regionW hc (by simp [hfi, hdi]; exact Ends.halt) (by first | exact True.intro | omega | assumption | (simp; done) | (simp; omega) | (simp at *; omega)) ?_ | refine run_drawN hc (by kernel_rfl) (by decide) (by kernel_rfl) (by simp [hfi, hdi]; exact Ends.halt) (by first | exact True.intro | omega | assumption | (simp; done) | (simp; omega) | (simp at *; omega)) ?_ | fail))
    all_goals try contradiction
    all_goals try (exfalso; omega)
    · rw [if_pos (by rw [hrd]; simpa using hb)] at hnx
      refine ⟨(i + 1, dput Lf (ftcAt L i).1 (int (max fr ((ftcAt L i).2.2 + dl)))), ⟨by simp only; omega, fun s => ?_⟩, by simp only; omega, run_back [8, 11, 12, 39, 40, 41] [25, 38, 40001] (by simp; exact Gives.mk) (by simp; exact Gives.mk) ?_⟩
      · simp only
        rw [dget_put, hF s, hfn s]
        by_cases h : (ftcAt L i).1 = s
        · subst h; simp [hfr0, hdl]
        · simp [h]
      · simp only [hnx, max2_eq]
        simp
    · rw [if_neg (by rw [hrd]; simpa using hb)] at hnx
      refine ⟨(i + 1, dput Lf (ftcAt L i).1 (int (max fr ((ftcAt L i).2.2 + dl)))), ⟨by simp only; omega, fun s => ?_⟩, by simp only; omega, run_back [8, 11, 12, 39, 40, 41] [25, 38, 40001] (by simp; exact Gives.mk) (by simp; exact Gives.mk) ?_⟩
      · simp only
        rw [dget_put, hF s, hfn s]
        by_cases h : (ftcAt L i).1 = s
        · subst h; simp [hfr0, hdl]
        · simp [h]
      · simp only [hnx, max2_eq]
        simp
  obtain rfl : i = L.length := by omega
  repeat' (first | (first | refine Ya ?_ | refine Yb ?_ | refine Yc ?_ | refine Yd ?_ | refine Ye ?_ | refine Yf ?_ | refine Yg ?_ | refine Yh ?_ | refine Yi ?_ | refine Yj ?_ | refine Yk ?_ | refine Yl ?_ | refine Ym ?_ | refine Yn ?_ | refine Yo ?_ | refine Yp (h := ?_) | refine Yq ?_ | refine Yr ?_ | refine Ys ?_ | refine Zr hc (hk := ?_) | refine Zd hc (hk := ?_) | (refine Zc (ht := fun hb => ?_) (hf := fun hb => ?_) <;> (try simp at hb)) | fail) | (first | refine Zo hc (hk := ?_) | refine Zu hc (hk := ?_) | refine Ze hc (hk := ?_) | refine Zn hc (hk := ?_) | fail))
  all_goals try contradiction
  all_goals try (exfalso; omega)
  (refine Zl hc (hr := ?_))
  simp
theorem qPolite_ok (L : List Ftc) (B : List Dly) (hl : L.length ≤ 9223372036854775807) (hn : ∀ j, (ftcAt L j).1.length ≤ 140737488351232) (hl2 : B.length ≤ 9223372036854775807) (hn2 : ∀ j, (dlyAt B j).1.length ≤ 140737488351232) :
    FnOk Tryz.prog 28 [ftcSl L, dlySl B] (politeD L B) := by
  refine fnOk Tryz.func28 rfl (by kernel_rfl) Tryz.ntmps28 _ rfl (by simp) fun C hc => ?_
  have h1 := qFetches_ok L B hl hn hl2 hn2
  unfold politeD
  by_cases he : polE L B = 0
  rotate_left
  · rw [if_pos he]
    generalize polE L B = e1 at h1 he ⊢
    repeat' (first | (first | refine Ya ?_ | refine Yb ?_ | refine Yc ?_ | refine Yd ?_ | refine Ye ?_ | refine Yf ?_ | refine Yg ?_ | refine Yh ?_ | refine Yi ?_ | refine Yj ?_ | refine Yk ?_ | refine Yl ?_ | refine Ym ?_ | refine Yn ?_ | refine Yo ?_ | refine Yp (h := ?_) | refine Yq ?_ | refine Yr ?_ | refine Ys ?_ | refine Zr hc (hk := ?_) | refine Zd hc (hk := ?_) | (refine Zc (ht := fun hb => ?_) (hf := fun hb => ?_) <;> (try simp at hb)) | fail) | (first | refine Zw hc (hf := by exact h1) (hk := ?_) | refine Zq hc (hf := by exact h1) (hk := ?_) | refine Zo hc (hk := ?_) | refine Zu hc (hk := ?_) | refine Ze hc (hk := ?_) | refine Zn hc (hk := ?_) | fail))
    all_goals try contradiction
    (refine Zl hc (hr := ?_))
    simp
  have ok := polE_good he
  rw [if_neg (fun h => h he)]
  rw [he] at h1
  clear he
  have hm := ok.many
  have hfw := ok.few
  repeat' (first | (first | refine Ya ?_ | refine Yb ?_ | refine Yc ?_ | refine Yd ?_ | refine Ye ?_ | refine Yf ?_ | refine Yg ?_ | refine Yh ?_ | refine Yi ?_ | refine Yj ?_ | refine Yk ?_ | refine Yl ?_ | refine Ym ?_ | refine Yn ?_ | refine Yo ?_ | refine Yp (h := ?_) | refine Yq ?_ | refine Yr ?_ | refine Ys ?_ | refine Zr hc (hk := ?_) | refine Zd hc (hk := ?_) | (refine Zc (ht := fun hb => ?_) (hf := fun hb => ?_) <;> (try simp at hb)) | fail) | (first | refine Zw hc (hf := by exact h1) (hk := ?_) | refine Zq hc (hf := by exact h1) (hk := ?_) | refine Zo hc (hk := ?_) | refine Zu hc (hk := ?_) | refine Ze hc (hk := ?_) | refine Zn hc (hk := ?_) | fail))
  all_goals try contradiction
  refine ewp_loop (fun i : Nat => ⟨[(0, .d (ftcSl L)), (1, .d (dlySl B)), (7, .os 40001 (rudes B L i).length), (22, .d (ftcSl L)), (23, .d (int L.length)), (24, .d (int i))], [owR (rudes B L i)]⟩)
    (fun i => i ≤ L.length) (fun i => L.length - i) 0 (Nat.zero_le _) (run_keepB [(7, none, 40001, 3, [int 0])] [0, 1, 7, 22, 23, 24] [40001] (by simp; exact Gives.mk) (by simp; exact Gives.mk) (by simp; exact Gives.mk)) ?_
  intro i hi
  have hrl := rudes_len B L i
  by_cases hlt : i < L.length
  rotate_left
  · obtain rfl : i = L.length := by omega
    repeat' (first | (first | refine Ya ?_ | refine Yb ?_ | refine Yc ?_ | refine Yd ?_ | refine Ye ?_ | refine Yf ?_ | refine Yg ?_ | refine Yh ?_ | refine Yi ?_ | refine Yj ?_ | refine Yk ?_ | refine Yl ?_ | refine Ym ?_ | refine Yn ?_ | refine Yo ?_ | refine Yp (h := ?_) | refine Yq ?_ | refine Yr ?_ | refine Ys ?_ | refine Zr hc (hk := ?_) | refine Zd hc (hk := ?_) | (refine Zc (ht := fun hb => ?_) (hf := fun hb => ?_) <;> (try simp at hb)) | fail) | (first | refine Zo hc (hk := ?_) | refine Zu hc (hk := ?_) | refine Ze hc (hk := ?_) | refine Zn hc (hk := ?_) | fail))
    all_goals try contradiction
    all_goals try (exfalso; omega)
    (refine Zl hc (hr := ?_))
    simp
  have hfr := ok.from_ i hlt
  have hnx := rudes_next B L i
  unfold okM at hfr
  have hrb : rudeB B L i = ((L.take i).any fun y => decide (y.1 = (ftcAt L i).1) && decide ((ftcAt L i).2.1 < y.2.2 + dlyOf B (ftcAt L i).1)) := rfl
  generalize hR : rudes B L i = R at hnx hrl ⊢
  repeat' (first | (first | refine Ya ?_ | refine Yb ?_ | refine Yc ?_ | refine Yd ?_ | refine Ye ?_ | refine Yf ?_ | refine Yg ?_ | refine Yh ?_ | refine Yi ?_ | refine Yj ?_ | refine Yk ?_ | refine Yl ?_ | refine Ym ?_ | refine Yn ?_ | refine Yo ?_ | refine Yp (h := ?_) | refine Yq ?_ | refine Yr ?_ | refine Ys ?_ | refine Zr hc (hk := ?_) | refine Zd hc (hk := ?_) | (refine Zc (ht := fun hb => ?_) (hf := fun hb => ?_) <;> (try simp at hb)) | fail) | (first | refine Zo hc (hk := ?_) | refine Zu hc (hk := ?_) | refine Ze hc (hk := ?_) | refine Zn hc (hk := ?_) | fail))
  all_goals try contradiction
  all_goals try (exfalso; omega)
  -- the delay of the host
  refine ewp_loop (fun j : Nat => ⟨[(0, .d (ftcSl L)), (1, .d (dlySl B)), (7, .os 40001 R.length), (8, .d (int i)), (9, .bp 9 0), (10, .d (int (dlyOf (B.take j) (ftcAt L i).1))), (22, .d (ftcSl L)), (23, .d (int L.length)), (24, .d (int i)), (29, .d (dlySl B)), (30, .d (int B.length)), (31, .d (int j))],
      [(9, .box 115 [.d (str (ftcAt L i).1), .d (int (ftcAt L i).2.1), .d (int (ftcAt L i).2.2)]), owR R]⟩)
    (fun j => j ≤ B.length) (fun j => B.length - j) 0 (Nat.zero_le _) (run_keep [0, 1, 7, 8, 9, 10, 22, 23, 24, 29, 30, 31] [9, 40001] (by simp; exact Gives.mk) (by simp; exact Gives.mk)) ?_
  intro j hj
  by_cases hlt2 : j < B.length
  · have hdn := dlyOf_next B hlt2 (ftcAt L i).1
    repeat' (first | (first | refine Ya ?_ | refine Yb ?_ | refine Yc ?_ | refine Yd ?_ | refine Ye ?_ | refine Yf ?_ | refine Yg ?_ | refine Yh ?_ | refine Yi ?_ | refine Yj ?_ | refine Yk ?_ | refine Yl ?_ | refine Ym ?_ | refine Yn ?_ | refine Yo ?_ | refine Yp (h := ?_) | refine Yq ?_ | refine Yr ?_ | refine Ys ?_ | refine Zr hc (hk := ?_) | refine Zd hc (hk := ?_) | (refine Zc (ht := fun hb => ?_) (hf := fun hb => ?_) <;> (try simp at hb)) | fail) | (first | refine Zo hc (hk := ?_) | refine Zu hc (hk := ?_) | refine Ze hc (hk := ?_) | refine Zn hc (hk := ?_) | fail))
    all_goals try contradiction
    all_goals try (exfalso; omega)
    · rw [if_pos hb] at hdn
      exact ⟨j + 1, by omega, by omega, run_back [0, 1, 7, 8, 9, 10, 22, 23, 24, 29, 30, 31] [9, 40001] (by simp; exact Gives.mk) (by simp; exact Gives.mk) (by simp [hdn])⟩
    · rw [if_neg hb] at hdn
      exact ⟨j + 1, by omega, by omega, run_back [0, 1, 7, 8, 9, 10, 22, 23, 24, 29, 30, 31] [9, 40001] (by simp; exact Gives.mk) (by simp; exact Gives.mk) (by simp [hdn])⟩
  obtain rfl : j = B.length := by omega
  rw [List.take_length]
  have hdb := dlyOf_bd B ok.sec (ftcAt L i).1
  generalize hdl : dlyOf B (ftcAt L i).1 = dl at hdb hrb ⊢
  repeat' (first | (first | refine Ya ?_ | refine Yb ?_ | refine Yc ?_ | refine Yd ?_ | refine Ye ?_ | refine Yf ?_ | refine Yg ?_ | refine Yh ?_ | refine Yi ?_ | refine Yj ?_ | refine Yk ?_ | refine Yl ?_ | refine Ym ?_ | refine Yn ?_ | refine Yo ?_ | refine Yp (h := ?_) | refine Yq ?_ | refine Yr ?_ | refine Ys ?_ | refine Zr hc (hk := ?_) | refine Zd hc (hk := ?_) | (refine Zc (ht := fun hb => ?_) (hf := fun hb => ?_) <;> (try simp at hb)) | fail) | (first | refine Zo hc (hk := ?_) | refine Zu hc (hk := ?_) | refine Ze hc (hk := ?_) | refine Zn hc (hk := ?_) | fail))
  all_goals try contradiction
  all_goals try (exfalso; omega)
  -- is it rude?
  refine ewp_loop (fun k : Nat => ⟨[(0, .d (ftcSl L)), (1, .d (dlySl B)), (7, .os 40001 R.length), (8, .d (int i)), (9, .bp 9 0), (10, .d (int dl)), (13, .d (tru ((L.take k).any fun y => decide (y.1 = (ftcAt L i).1) && decide ((ftcAt L i).2.1 < y.2.2 + dl)))), (22, .d (ftcSl L)), (23, .d (int L.length)), (24, .d (int i)), (45, .d (.sl i fun i => [str (ftcAt L i).1, int (ftcAt L i).2.1, int (ftcAt L i).2.2])), (46, .d (int i)), (47, .d (int k))],
      [(9, .box 115 [.d (str (ftcAt L i).1), .d (int (ftcAt L i).2.1), .d (int (ftcAt L i).2.2)]), owR R]⟩)
    (fun k => k ≤ i) (fun k => i - k) 0 (Nat.zero_le _) (run_keep [0, 1, 7, 8, 9, 10, 13, 22, 23, 24, 45, 46, 47] [9, 40001] (by simp; exact Gives.mk) (by simp; exact Gives.mk)) ?_
  intro k hk
  by_cases hlt3 : k < i
  · have hto := ok.to_ k (by omega)
    have han := any_next (fun y => decide (y.1 = (ftcAt L i).1) && decide ((ftcAt L i).2.1 < y.2.2 + dl)) ftc0 L (show k < L.length by omega)
    unfold okM at hto
    generalize hg : ((L.take k).any fun y => decide (y.1 = (ftcAt L i).1) && decide ((ftcAt L i).2.1 < y.2.2 + dl)) = g at han ⊢
    repeat' (first | (first | refine Ya ?_ | refine Yb ?_ | refine Yc ?_ | refine Yd ?_ | refine Ye ?_ | refine Yf ?_ | refine Yg ?_ | refine Yh ?_ | refine Yi ?_ | refine Yj ?_ | refine Yk ?_ | refine Yl ?_ | refine Ym ?_ | refine Yn ?_ | refine Yo ?_ | refine Yp (h := ?_) | refine Yq ?_ | refine Yr ?_ | refine Ys ?_ | refine Zr hc (hk := ?_) | refine Zd hc (hk := ?_) | (refine Zc (ht := fun hb => ?_) (hf := fun hb => ?_) <;> (try simp at hb)) | fail) | (first | refine Zo hc (hk := ?_) | refine Zu hc (hk := ?_) | refine Ze hc (hk := ?_) | refine Zn hc (hk := ?_) | fail))
    all_goals try contradiction
    all_goals try (exfalso; omega)
    refine ⟨k + 1, by omega, by omega, run_back [0, 1, 7, 8, 9, 10, 13, 22, 23, 24, 45, 46, 47] [9, 40001] (by simp; exact Gives.mk) (by simp; exact Gives.mk) ?_⟩
    simp only [han]
    simp
    rw [Bool.eq_iff_iff]
    simp
  obtain rfl : k = i := by omega
  rw [← hrb]
  generalize rudeB B L k = rb at hnx ⊢
  repeat' (first | (first | refine Ya ?_ | refine Yb ?_ | refine Yc ?_ | refine Yd ?_ | refine Ye ?_ | refine Yf ?_ | refine Yg ?_ | refine Yh ?_ | refine Yi ?_ | refine Yj ?_ | refine Yk ?_ | refine Yl ?_ | refine Ym ?_ | refine Yn ?_ | refine Yo ?_ | refine Yp (h := ?_) | refine Yq ?_ | refine Yr ?_ | refine Ys ?_ | refine Zr hc (hk := ?_) | refine Zd hc (hk := ?_) | (refine Zc (ht := fun hb => ?_) (hf := fun hb => ?_) <;> (try simp at hb)) | fail) | (first | refine Zo hc (hk := ?_) | refine Zu hc (hk := ?_) | refine Ze hc (hk := ?_) | refine Zn hc (hk := ?_) | fail))
  all_goals try contradiction
  all_goals try (exfalso; omega)
  · rw [if_pos hb] at hnx
    refine ⟨k + 1, by omega, by omega, run_back [0, 1, 7, 22, 23, 24] [40001] (by simp; exact Gives.mk) (by simp; exact Gives.mk) ?_⟩
    simp [hnx]
  · rw [if_neg (by simp [hb])] at hnx
    refine ⟨k + 1, by omega, by omega, run_back [0, 1, 7, 22, 23, 24] [40001] (by simp; exact Gives.mk) (by simp; exact Gives.mk) ?_⟩
    simp [hnx]
end Go.Proofs.YtnainpghpjelcaaGreatDoor
/-
  FRONTIER: FrontierSharesMatchSpec's own walk. (WITH run_drawN.)
-/
set_option linter.unusedSimpArgs false
set_option linter.unusedVariables false
namespace Go.Proofs.YtnainpghpjelcaaGreatDoor
open Go.Lw Go.RowKit
set_option maxRecDepth 100000
set_option maxHeartbeats 4000000

theorem eqIntsNo_ok : FnOk Tryz.prog 26 [.lit (.slice none 0 0), .lit (.slice none 0 0)] (tru true) := by
  refine fnOk Tryz.func26 rfl (by kernel_rfl) Tryz.ntmps26 _ rfl (by simp) fun C hc => ?_
  repeat' (first | (first | refine Ya ?_ | refine Yb ?_ | refine Yc ?_ | refine Yd ?_ | refine Ye ?_ | refine Yf ?_ | refine Yg ?_ | refine Yh ?_ | refine Yi ?_ | refine Yj ?_ | refine Yk ?_ | refine Yl ?_ | refine Ym ?_ | refine Yn ?_ | refine Yo ?_ | refine Yp (h := ?_) | refine Yq ?_ | refine Yr ?_ | refine Ys ?_ | refine Zr hc (hk := ?_) | refine Zd hc (hk := ?_) | (refine Zc (ht := fun hb => ?_) (hf := fun hb => ?_) <;> (try simp at hb)) | fail) | (first | refine Zo hc (hk := ?_) | refine Zu hc (hk := ?_) | refine Ze hc (hk := ?_) | refine Zn hc (hk := ?_) | fail))
  all_goals try contradiction
  refine ewp_loop (fun _ : Unit => ⟨[(12, .d (int 0)), (13, .d (int 0))], []⟩) (fun _ => True) (fun _ => 0) () trivial (run_keep [12, 13] [] (by simp; exact Gives.mk) (by simp; exact Gives.mk)) ?_
  intro _ _
  repeat' (first | (first | refine Ya ?_ | refine Yb ?_ | refine Yc ?_ | refine Yd ?_ | refine Ye ?_ | refine Yf ?_ | refine Yg ?_ | refine Yh ?_ | refine Yi ?_ | refine Yj ?_ | refine Yk ?_ | refine Yl ?_ | refine Ym ?_ | refine Yn ?_ | refine Yo ?_ | refine Yp (h := ?_) | refine Yq ?_ | refine Yr ?_ | refine Ys ?_ | refine Zr hc (hk := ?_) | refine Zd hc (hk := ?_) | (refine Zc (ht := fun hb => ?_) (hf := fun hb => ?_) <;> (try simp at hb)) | fail) | (first | refine Zo hc (hk := ?_) | refine Zu hc (hk := ?_) | refine Ze hc (hk := ?_) | refine Zn hc (hk := ?_) | fail))
  all_goals try contradiction
  (refine Zl hc (hr := ?_))
  simp
theorem sharesF_len0 {l : List Clm} (out : List Int) (n : Int) (h : Fits l out) (hn : 0 ≤ n) : (sharesF l out n).length = l.length := by
  rw [sharesF]
  by_cases h0 : 0 < n
  · rw [dif_pos h0]
    by_cases hw : wFrom l out 0 = 0
    · rw [if_pos hw]; exact h.len
    · rw [if_neg hw]
      obtain ⟨a1, a2, a3, a4⟩ := round_spec out n h h0 hw
      rw [dif_pos a3]
      exact sharesF_len0 _ _ a1 a2
  · rw [dif_neg h0]; exact h.len
termination_by n.toNat
decreasing_by omega
theorem sharesSpec_ok (n : Int) (l : List Clm) (L : List Ftc) (B : List Dly) (hl : l.length ≤ maxLen) (hL : FtcsFit L) (hB : DlysFit B) : FnOk Tryz.prog 6 [int n, clmSl l, ftcSl L, dlySl B] (tru true) := by
  refine fnOk Tryz.func6 rfl (by kernel_rfl) Tryz.ntmps6 _ rfl (by simp) fun C hc => ?_
  have m1 : l.length ≤ 9223372036854775807 := by simp only [maxLen] at hl; omega
  have m2 : L.length ≤ 9223372036854775807 := by have := hL.1; simp only [maxLen] at this; omega
  have m3 : B.length ≤ 9223372036854775807 := by have := hB.1; simp only [maxLen] at this; omega
  have h1 := Shares_ok n l m1
  have h2 := qShares_ok n l m1
  have h3 := frPolite_ok L B m2 (ftc_names hL) m3 (dly_names hB)
  have h4 := qPolite_ok L B m2 (ftc_names hL) m3 (dly_names hB)
  have hN := eqIntsNo_ok
  unfold sharesD at h2
  unfold politeD at h3 h4
  have b2 : (rudes B L L.length).length ≤ 9223372036854775807 := by have := rudes_len B L L.length; omega
  have e1 : checkClaims n l = 0 → FnOk Tryz.prog 26 [intSl (sharesF l (List.replicate l.length 0) n), intSl (sharesF l (List.replicate l.length 0) n)] (tru true) := fun h => by
    obtain ⟨a1, a2, a3⟩ := claims_good h
    exact eqInts_ok _ (by rw [sharesF_len0 _ _ a1 a2]; exact m1)
  have e2 := eqInts_ok (rudes B L L.length) b2
  generalize sharesF l (List.replicate l.length 0) n = S at h1 h2 e1
  generalize rudes B L L.length = R at h3 h4 e2
  generalize checkClaims n l = c1 at h1 h2 e1
  generalize polE L B = c2 at h3 h4
  by_cases k1 : c1 = 0 <;> by_cases k2 : c2 = 0
  all_goals simp only [k1, k2, ne_eq, not_true_eq_false, not_false_eq_true, if_true, if_false, forall_const, false_implies] at h1 h2 h3 h4 e1
  all_goals repeat' (first | (first | refine Ya ?_ | refine Yb ?_ | refine Yc ?_ | refine Yd ?_ | refine Ye ?_ | refine Yf ?_ | refine Yg ?_ | refine Yh ?_ | refine Yi ?_ | refine Yj ?_ | refine Yk ?_ | refine Yl ?_ | refine Ym ?_ | refine Yn ?_ | refine Yo ?_ | refine Yp (h := ?_) | refine Yq ?_ | refine Yr ?_ | refine Ys ?_ | refine Zr hc (hk := ?_) | refine Zd hc (hk := ?_) | (refine Zc (ht := fun hb => ?_) (hf := fun hb => ?_) <;> (try simp at hb)) | fail) | (first | refine Zw hc (hf := by first | exact h1 | exact h2 | exact h3 | exact h4 | exact hN | exact e1 | exact e2 | exact awake5_ok) (hk := ?_) | refine Zq hc (hf := by first | exact h1 | exact h2 | exact h3 | exact h4 | exact hN | exact e1 | exact e2 | exact awake5_ok) (hk := ?_) | refine Zo hc (hk := ?_) | refine Zu hc (hk := ?_) | refine Ze hc (hk := ?_) | refine Zn hc (hk := ?_) | fail))
  all_goals try contradiction
  all_goals (refine Zl hc (hr := ?_))
  all_goals simp
end Go.Proofs.YtnainpghpjelcaaGreatDoor
