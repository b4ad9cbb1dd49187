/-
  TRAPS: bounds, digits, parts, counts (both sides). (WITH run_drawN.)
-/
import Derived.Test.YtnainpghpjelcaaGreatDoorFnD
import Derived.Test.YtnainpghpjelcaaGreatDoorFnB
import Derived.Test.YtnainpghpjelcaaGreatDoorLibS
import Derived.Test.YtnainpghpjelcaaGreatDoorLwDict
import Derived.Test.YtnainpghpjelcaaGreatDoorFnS
set_option linter.unusedSimpArgs false
set_option linter.unusedVariables false
namespace Go.Proofs.YtnainpghpjelcaaGreatDoor
open Go.Lw Go.RowKit
set_option maxRecDepth 100000
set_option maxHeartbeats 2000000

structure Trp where
  len : Int
  depth : Int
  again : Int
  parts : Int
  digits : Int
abbrev trpCells (b : Trp) : List D := [int b.len, int b.depth, int b.again, int b.parts, int b.digits]
abbrev trpD (b : Trp) : D := .agg [int b.len, int b.depth, int b.again, int b.parts, int b.digits]
def inB (n : Int) : Bool := decide (1 ≤ n ∧ n ≤ 1000000)
def boundsE (b : Trp) : Nat := if decide (1 ≤ b.len ∧ b.len ≤ 2002) = false ∨ inB b.depth = false ∨ inB b.again = false ∨ inB b.parts = false ∨ inB b.digits = false then 1 else 0
theorem checkBounds_ok (b : Trp) : FnOk Tryz.prog 22 [trpD b] (int (boundsE b)) := by
  refine fnOk Tryz.func22 rfl (by kernel_rfl) Tryz.ntmps22 _ rfl (by simp) fun C hc => ?_
  obtain ⟨b0, b1, b2, b3, b4⟩ := b
  have h0 := frWithin_ok b0 1 2002
  have h1 := frWithin_ok b1 1 1000000
  have h2 := frWithin_ok b2 1 1000000
  have h3 := frWithin_ok b3 1 1000000
  have h4 := frWithin_ok b4 1 1000000
  unfold boundsE inB
  simp only
  generalize decide (1 ≤ b0 ∧ b0 ≤ 2002) = w0 at h0 ⊢
  generalize decide (1 ≤ b1 ∧ b1 ≤ 1000000) = w1 at h1 ⊢
  generalize decide (1 ≤ b2 ∧ b2 ≤ 1000000) = w2 at h2 ⊢
  generalize decide (1 ≤ b3 ∧ b3 ≤ 1000000) = w3 at h3 ⊢
  generalize decide (1 ≤ b4 ∧ b4 ≤ 1000000) = w4 at h4 ⊢
  repeat' (first | (first | refine Ya ?_ | refine Yb ?_ | refine Yc ?_ | refine Yd ?_ | refine Ye ?_ | refine Yf ?_ | refine Yg ?_ | refine Yh ?_ | refine Yi ?_ | refine Yj ?_ | refine Yk ?_ | refine Yl ?_ | refine Ym ?_ | refine Yn ?_ | refine Yo ?_ | refine Yp (h := ?_) | refine Yq ?_ | refine Yr ?_ | refine Ys ?_ | refine Zr hc (hk := ?_) | refine Zd hc (hk := ?_) | (refine Zc (ht := fun hb => ?_) (hf := fun hb => ?_) <;> (try simp at hb)) | fail) | (first | refine Zw hc (hf := by exact h0) (hk := ?_) | refine Zq hc (hf := by exact h0) (hk := ?_) | refine Zo hc (hk := ?_) | refine Zu hc (hk := ?_) | refine Ze hc (hk := ?_) | refine Zn hc (hk := ?_) | fail))
  · rw [if_pos (.inl hb)]
    (refine Zl hc (hr := ?_))
    simp
  · have g0 := hb
    subst g0
    (first | refine run_sealW 17 hc (by simp; exact Gives.mk) (by simp) ?_ | refine run_seal 17 hc (by simp; exact Gives.mk) (by simp) ?_)
    refine ewp_loop (fun j : Nat => ⟨[(17, .d (.sl 4 fun i => [[int b1], [int b2], [int b3], [int b4]][i]?.getD [int 0])), (18, .d (int 4)), (19, .d (int j))], []⟩) (fun j => j ≤ 4 ∧ (1 ≤ j → w1 = true) ∧ (2 ≤ j → w2 = true) ∧ (3 ≤ j → w3 = true) ∧ (4 ≤ j → w4 = true)) (fun j => 4 - j) 0 (by simp) (run_keep [17, 18, 19] [] (by simp; exact Gives.mk) (by simp; exact Gives.mk)) ?_
    rintro j ⟨hj, k1, k2, k3, k4⟩
    match j, hj with
    | 0, _ =>
      repeat' (first | (first | refine Ya ?_ | refine Yb ?_ | refine Yc ?_ | refine Yd ?_ | refine Ye ?_ | refine Yf ?_ | refine Yg ?_ | refine Yh ?_ | refine Yi ?_ | refine Yj ?_ | refine Yk ?_ | refine Yl ?_ | refine Ym ?_ | refine Yn ?_ | refine Yo ?_ | refine Yp (h := ?_) | refine Yq ?_ | refine Yr ?_ | refine Ys ?_ | refine Zr hc (hk := ?_) | refine Zd hc (hk := ?_) | (refine Zc (ht := fun hb => ?_) (hf := fun hb => ?_) <;> (try simp at hb)) | fail) | (first | refine Zw hc (hf := by exact h1) (hk := ?_) | refine Zq hc (hf := by exact h1) (hk := ?_) | refine Zo hc (hk := ?_) | refine Zu hc (hk := ?_) | refine Ze hc (hk := ?_) | refine Zn hc (hk := ?_) | fail))
      all_goals try (exfalso; omega)
      · rw [if_pos (.inr (.inl hb))]
        (refine Zl hc (hr := ?_))
        simp
      · exact ⟨1, ⟨by omega, fun _ => hb, fun h => by omega, fun h => by omega, fun h => by omega⟩, by omega, run_back [17, 18, 19] [] (by simp; exact Gives.mk) (by simp; exact Gives.mk) (by simp)⟩
    | 1, _ =>
      repeat' (first | (first | refine Ya ?_ | refine Yb ?_ | refine Yc ?_ | refine Yd ?_ | refine Ye ?_ | refine Yf ?_ | refine Yg ?_ | refine Yh ?_ | refine Yi ?_ | refine Yj ?_ | refine Yk ?_ | refine Yl ?_ | refine Ym ?_ | refine Yn ?_ | refine Yo ?_ | refine Yp (h := ?_) | refine Yq ?_ | refine Yr ?_ | refine Ys ?_ | refine Zr hc (hk := ?_) | refine Zd hc (hk := ?_) | (refine Zc (ht := fun hb => ?_) (hf := fun hb => ?_) <;> (try simp at hb)) | fail) | (first | refine Zw hc (hf := by exact h2) (hk := ?_) | refine Zq hc (hf := by exact h2) (hk := ?_) | refine Zo hc (hk := ?_) | refine Zu hc (hk := ?_) | refine Ze hc (hk := ?_) | refine Zn hc (hk := ?_) | fail))
      all_goals try (exfalso; omega)
      · rw [if_pos (.inr (.inr (.inl hb)))]
        (refine Zl hc (hr := ?_))
        simp
      · exact ⟨2, ⟨by omega, fun _ => k1 (by omega), fun _ => hb, fun h => by omega, fun h => by omega⟩, by omega, run_back [17, 18, 19] [] (by simp; exact Gives.mk) (by simp; exact Gives.mk) (by simp)⟩
    | 2, _ =>
      repeat' (first | (first | refine Ya ?_ | refine Yb ?_ | refine Yc ?_ | refine Yd ?_ | refine Ye ?_ | refine Yf ?_ | refine Yg ?_ | refine Yh ?_ | refine Yi ?_ | refine Yj ?_ | refine Yk ?_ | refine Yl ?_ | refine Ym ?_ | refine Yn ?_ | refine Yo ?_ | refine Yp (h := ?_) | refine Yq ?_ | refine Yr ?_ | refine Ys ?_ | refine Zr hc (hk := ?_) | refine Zd hc (hk := ?_) | (refine Zc (ht := fun hb => ?_) (hf := fun hb => ?_) <;> (try simp at hb)) | fail) | (first | refine Zw hc (hf := by exact h3) (hk := ?_) | refine Zq hc (hf := by exact h3) (hk := ?_) | refine Zo hc (hk := ?_) | refine Zu hc (hk := ?_) | refine Ze hc (hk := ?_) | refine Zn hc (hk := ?_) | fail))
      all_goals try (exfalso; omega)
      · rw [if_pos (.inr (.inr (.inr (.inl hb))))]
        (refine Zl hc (hr := ?_))
        simp
      · exact ⟨3, ⟨by omega, fun _ => k1 (by omega), fun _ => k2 (by omega), fun _ => hb, fun h => by omega⟩, by omega, run_back [17, 18, 19] [] (by simp; exact Gives.mk) (by simp; exact Gives.mk) (by simp)⟩
    | 3, _ =>
      repeat' (first | (first | refine Ya ?_ | refine Yb ?_ | refine Yc ?_ | refine Yd ?_ | refine Ye ?_ | refine Yf ?_ | refine Yg ?_ | refine Yh ?_ | refine Yi ?_ | refine Yj ?_ | refine Yk ?_ | refine Yl ?_ | refine Ym ?_ | refine Yn ?_ | refine Yo ?_ | refine Yp (h := ?_) | refine Yq ?_ | refine Yr ?_ | refine Ys ?_ | refine Zr hc (hk := ?_) | refine Zd hc (hk := ?_) | (refine Zc (ht := fun hb => ?_) (hf := fun hb => ?_) <;> (try simp at hb)) | fail) | (first | refine Zw hc (hf := by exact h4) (hk := ?_) | refine Zq hc (hf := by exact h4) (hk := ?_) | refine Zo hc (hk := ?_) | refine Zu hc (hk := ?_) | refine Ze hc (hk := ?_) | refine Zn hc (hk := ?_) | fail))
      all_goals try (exfalso; omega)
      · rw [if_pos (.inr (.inr (.inr (.inr hb))))]
        (refine Zl hc (hr := ?_))
        simp
      · exact ⟨4, ⟨by omega, fun _ => k1 (by omega), fun _ => k2 (by omega), fun _ => k3 (by omega), fun _ => hb⟩, by omega, run_back [17, 18, 19] [] (by simp; exact Gives.mk) (by simp; exact Gives.mk) (by simp)⟩
    | 4, _ =>
      have g1 := k1 (by omega)
      have g2 := k2 (by omega)
      have g3 := k3 (by omega)
      have g4 := k4 (by omega)
      subst g1; subst g2; subst g3; subst g4
      repeat' (first | (first | refine Ya ?_ | refine Yb ?_ | refine Yc ?_ | refine Yd ?_ | refine Ye ?_ | refine Yf ?_ | refine Yg ?_ | refine Yh ?_ | refine Yi ?_ | refine Yj ?_ | refine Yk ?_ | refine Yl ?_ | refine Ym ?_ | refine Yn ?_ | refine Yo ?_ | refine Yp (h := ?_) | refine Yq ?_ | refine Yr ?_ | refine Ys ?_ | refine Zr hc (hk := ?_) | refine Zd hc (hk := ?_) | (refine Zc (ht := fun hb => ?_) (hf := fun hb => ?_) <;> (try simp at hb)) | fail) | (first | refine Zo hc (hk := ?_) | refine Zu hc (hk := ?_) | refine Ze hc (hk := ?_) | refine Zn hc (hk := ?_) | fail))
      all_goals try (exfalso; omega)
      rw [if_neg (by simp)]
      (refine Zl hc (hr := ?_))
      simp
theorem qCheckBounds_ok (b : Trp) : FnOk Tryz.prog 23 [trpD b] (int (boundsE b)) := by
  refine fnOk Tryz.func23 rfl (by kernel_rfl) Tryz.ntmps23 _ rfl (by simp) fun C hc => ?_
  obtain ⟨b0, b1, b2, b3, b4⟩ := b
  have h0 := qFrWithin_ok b0 1 2002
  have h1 := qFrWithin_ok b1 1 1000000
  have h2 := qFrWithin_ok b2 1 1000000
  have h3 := qFrWithin_ok b3 1 1000000
  have h4 := qFrWithin_ok b4 1 1000000
  unfold boundsE inB
  simp only
  generalize decide (1 ≤ b0 ∧ b0 ≤ 2002) = w0 at h0 ⊢
  generalize decide (1 ≤ b1 ∧ b1 ≤ 1000000) = w1 at h1 ⊢
  generalize decide (1 ≤ b2 ∧ b2 ≤ 1000000) = w2 at h2 ⊢
  generalize decide (1 ≤ b3 ∧ b3 ≤ 1000000) = w3 at h3 ⊢
  generalize decide (1 ≤ b4 ∧ b4 ≤ 1000000) = w4 at h4 ⊢
  repeat' (first | (first | refine Ya ?_ | refine Yb ?_ | refine Yc ?_ | refine Yd ?_ | refine Ye ?_ | refine Yf ?_ | refine Yg ?_ | refine Yh ?_ | refine Yi ?_ | refine Yj ?_ | refine Yk ?_ | refine Yl ?_ | refine Ym ?_ | refine Yn ?_ | refine Yo ?_ | refine Yp (h := ?_) | refine Yq ?_ | refine Yr ?_ | refine Ys ?_ | refine Zr hc (hk := ?_) | refine Zd hc (hk := ?_) | (refine Zc (ht := fun hb => ?_) (hf := fun hb => ?_) <;> (try simp at hb)) | fail) | (first | refine Zw hc (hf := by exact h0) (hk := ?_) | refine Zq hc (hf := by exact h0) (hk := ?_) | refine Zo hc (hk := ?_) | refine Zu hc (hk := ?_) | refine Ze hc (hk := ?_) | refine Zn hc (hk := ?_) | fail))
  · rw [if_pos (.inl hb)]
    (refine Zl hc (hr := ?_))
    simp
  · have g0 := hb
    subst g0
    (first | refine run_sealW 17 hc (by simp; exact Gives.mk) (by simp) ?_ | refine run_seal 17 hc (by simp; exact Gives.mk) (by simp) ?_)
    refine ewp_loop (fun j : Nat => ⟨[(17, .d (.sl 4 fun i => [[int b1], [int b2], [int b3], [int b4]][i]?.getD [int 0])), (18, .d (int 4)), (19, .d (int j))], []⟩) (fun j => j ≤ 4 ∧ (1 ≤ j → w1 = true) ∧ (2 ≤ j → w2 = true) ∧ (3 ≤ j → w3 = true) ∧ (4 ≤ j → w4 = true)) (fun j => 4 - j) 0 (by simp) (run_keep [17, 18, 19] [] (by simp; exact Gives.mk) (by simp; exact Gives.mk)) ?_
    rintro j ⟨hj, k1, k2, k3, k4⟩
    match j, hj with
    | 0, _ =>
      repeat' (first | (first | refine Ya ?_ | refine Yb ?_ | refine Yc ?_ | refine Yd ?_ | refine Ye ?_ | refine Yf ?_ | refine Yg ?_ | refine Yh ?_ | refine Yi ?_ | refine Yj ?_ | refine Yk ?_ | refine Yl ?_ | refine Ym ?_ | refine Yn ?_ | refine Yo ?_ | refine Yp (h := ?_) | refine Yq ?_ | refine Yr ?_ | refine Ys ?_ | refine Zr hc (hk := ?_) | refine Zd hc (hk := ?_) | (refine Zc (ht := fun hb => ?_) (hf := fun hb => ?_) <;> (try simp at hb)) | fail) | (first | refine Zw hc (hf := by exact h1) (hk := ?_) | refine Zq hc (hf := by exact h1) (hk := ?_) | refine Zo hc (hk := ?_) | refine Zu hc (hk := ?_) | refine Ze hc (hk := ?_) | refine Zn hc (hk := ?_) | fail))
      all_goals try (exfalso; omega)
      · rw [if_pos (.inr (.inl hb))]
        (refine Zl hc (hr := ?_))
        simp
      · exact ⟨1, ⟨by omega, fun _ => hb, fun h => by omega, fun h => by omega, fun h => by omega⟩, by omega, run_back [17, 18, 19] [] (by simp; exact Gives.mk) (by simp; exact Gives.mk) (by simp)⟩
    | 1, _ =>
      repeat' (first | (first | refine Ya ?_ | refine Yb ?_ | refine Yc ?_ | refine Yd ?_ | refine Ye ?_ | refine Yf ?_ | refine Yg ?_ | refine Yh ?_ | refine Yi ?_ | refine Yj ?_ | refine Yk ?_ | refine Yl ?_ | refine Ym ?_ | refine Yn ?_ | refine Yo ?_ | refine Yp (h := ?_) | refine Yq ?_ | refine Yr ?_ | refine Ys ?_ | refine Zr hc (hk := ?_) | refine Zd hc (hk := ?_) | (refine Zc (ht := fun hb => ?_) (hf := fun hb => ?_) <;> (try simp at hb)) | fail) | (first | refine Zw hc (hf := by exact h2) (hk := ?_) | refine Zq hc (hf := by exact h2) (hk := ?_) | refine Zo hc (hk := ?_) | refine Zu hc (hk := ?_) | refine Ze hc (hk := ?_) | refine Zn hc (hk := ?_) | fail))
      all_goals try (exfalso; omega)
      · rw [if_pos (.inr (.inr (.inl hb)))]
        (refine Zl hc (hr := ?_))
        simp
      · exact ⟨2, ⟨by omega, fun _ => k1 (by omega), fun _ => hb, fun h => by omega, fun h => by omega⟩, by omega, run_back [17, 18, 19] [] (by simp; exact Gives.mk) (by simp; exact Gives.mk) (by simp)⟩
    | 2, _ =>
      repeat' (first | (first | refine Ya ?_ | refine Yb ?_ | refine Yc ?_ | refine Yd ?_ | refine Ye ?_ | refine Yf ?_ | refine Yg ?_ | refine Yh ?_ | refine Yi ?_ | refine Yj ?_ | refine Yk ?_ | refine Yl ?_ | refine Ym ?_ | refine Yn ?_ | refine Yo ?_ | refine Yp (h := ?_) | refine Yq ?_ | refine Yr ?_ | refine Ys ?_ | refine Zr hc (hk := ?_) | refine Zd hc (hk := ?_) | (refine Zc (ht := fun hb => ?_) (hf := fun hb => ?_) <;> (try simp at hb)) | fail) | (first | refine Zw hc (hf := by exact h3) (hk := ?_) | refine Zq hc (hf := by exact h3) (hk := ?_) | refine Zo hc (hk := ?_) | refine Zu hc (hk := ?_) | refine Ze hc (hk := ?_) | refine Zn hc (hk := ?_) | fail))
      all_goals try (exfalso; omega)
      · rw [if_pos (.inr (.inr (.inr (.inl hb))))]
        (refine Zl hc (hr := ?_))
        simp
      · exact ⟨3, ⟨by omega, fun _ => k1 (by omega), fun _ => k2 (by omega), fun _ => hb, fun h => by omega⟩, by omega, run_back [17, 18, 19] [] (by simp; exact Gives.mk) (by simp; exact Gives.mk) (by simp)⟩
    | 3, _ =>
      repeat' (first | (first | refine Ya ?_ | refine Yb ?_ | refine Yc ?_ | refine Yd ?_ | refine Ye ?_ | refine Yf ?_ | refine Yg ?_ | refine Yh ?_ | refine Yi ?_ | refine Yj ?_ | refine Yk ?_ | refine Yl ?_ | refine Ym ?_ | refine Yn ?_ | refine Yo ?_ | refine Yp (h := ?_) | refine Yq ?_ | refine Yr ?_ | refine Ys ?_ | refine Zr hc (hk := ?_) | refine Zd hc (hk := ?_) | (refine Zc (ht := fun hb => ?_) (hf := fun hb => ?_) <;> (try simp at hb)) | fail) | (first | refine Zw hc (hf := by exact h4) (hk := ?_) | refine Zq hc (hf := by exact h4) (hk := ?_) | refine Zo hc (hk := ?_) | refine Zu hc (hk := ?_) | refine Ze hc (hk := ?_) | refine Zn hc (hk := ?_) | fail))
      all_goals try (exfalso; omega)
      · rw [if_pos (.inr (.inr (.inr (.inr hb))))]
        (refine Zl hc (hr := ?_))
        simp
      · exact ⟨4, ⟨by omega, fun _ => k1 (by omega), fun _ => k2 (by omega), fun _ => k3 (by omega), fun _ => hb⟩, by omega, run_back [17, 18, 19] [] (by simp; exact Gives.mk) (by simp; exact Gives.mk) (by simp)⟩
    | 4, _ =>
      have g1 := k1 (by omega)
      have g2 := k2 (by omega)
      have g3 := k3 (by omega)
      have g4 := k4 (by omega)
      subst g1; subst g2; subst g3; subst g4
      repeat' (first | (first | refine Ya ?_ | refine Yb ?_ | refine Yc ?_ | refine Yd ?_ | refine Ye ?_ | refine Yf ?_ | refine Yg ?_ | refine Yh ?_ | refine Yi ?_ | refine Yj ?_ | refine Yk ?_ | refine Yl ?_ | refine Ym ?_ | refine Yn ?_ | refine Yo ?_ | refine Yp (h := ?_) | refine Yq ?_ | refine Yr ?_ | refine Ys ?_ | refine Zr hc (hk := ?_) | refine Zd hc (hk := ?_) | (refine Zc (ht := fun hb => ?_) (hf := fun hb => ?_) <;> (try simp at hb)) | fail) | (first | refine Zo hc (hk := ?_) | refine Zu hc (hk := ?_) | refine Ze hc (hk := ?_) | refine Zn hc (hk := ?_) | fail))
      all_goals try (exfalso; omega)
      rw [if_neg (by simp)]
      (refine Zl hc (hr := ?_))
      simp
/-! Digits. -/
def dgB (c : UInt8) : Bool := decide (48 ≤ c.toNat) && decide (c.toNat ≤ 57)
def digC (s : Bs) : Nat := s.countP dgB
theorem countP_next {α : Type} (p : α → Bool) (d : α) (l : List α) {j : Nat} (hj : j < l.length) : (l.take (j + 1)).countP p = (l.take j).countP p + if p (l[j]?.getD d) = true then 1 else 0 := by
  rw [List.take_succ_eq_append_getElem hj, List.countP_append, List.getElem?_eq_getElem hj]
  simp [List.countP_cons]
theorem digits_ok (s : Bs) (hm : s.length ≤ 9223372036854775807) : FnOk Tryz.prog 131 [str s] (int (digC s)) := by
  refine fnOk Tryz.func131 rfl (by kernel_rfl) Tryz.ntmps131 _ rfl (by simp) fun C hc => ?_
  repeat' (first | (first | refine Ya ?_ | refine Yb ?_ | refine Yc ?_ | refine Yd ?_ | refine Ye ?_ | refine Yf ?_ | refine Yg ?_ | refine Yh ?_ | refine Yi ?_ | refine Yj ?_ | refine Yk ?_ | refine Yl ?_ | refine Ym ?_ | refine Yn ?_ | refine Yo ?_ | refine Yp (h := ?_) | refine Yq ?_ | refine Yr ?_ | refine Ys ?_ | refine Zr hc (hk := ?_) | refine Zd hc (hk := ?_) | (refine Zc (ht := fun hb => ?_) (hf := fun hb => ?_) <;> (try simp at hb)) | fail) | (first | refine Zo hc (hk := ?_) | refine Zu hc (hk := ?_) | refine Ze hc (hk := ?_) | refine Zn hc (hk := ?_) | fail))
  refine ewp_loop (fun j : Nat => ⟨[(0, .d (str s)), (3, .d (int ((s.take j).countP dgB))), (6, .d (int s.length)), (7, .d (int j))], []⟩) (fun j => j ≤ s.length) (fun j => s.length - j) 0 (by simp) (run_keep [0, 3, 6, 7] [] (by simp; exact Gives.mk) (by simp; exact Gives.mk)) ?_
  intro j hj
  have hle : (s.take j).countP dgB ≤ j := Nat.le_trans List.countP_le_length (by simp; omega)
  by_cases hlt : j < s.length
  · have hn := countP_next dgB 0 s hlt
    have hdg : dgB (s[j]?.getD 0) = true ↔ 48 ≤ (s[j]?.getD 0).toNat ∧ (s[j]?.getD 0).toNat ≤ 57 := by simp [dgB]
    repeat' (first | (first | refine Ya ?_ | refine Yb ?_ | refine Yc ?_ | refine Yd ?_ | refine Ye ?_ | refine Yf ?_ | refine Yg ?_ | refine Yh ?_ | refine Yi ?_ | refine Yj ?_ | refine Yk ?_ | refine Yl ?_ | refine Ym ?_ | refine Yn ?_ | refine Yo ?_ | refine Yp (h := ?_) | refine Yq ?_ | refine Yr ?_ | refine Ys ?_ | refine Zr hc (hk := ?_) | refine Zd hc (hk := ?_) | (refine Zc (ht := fun hb => ?_) (hf := fun hb => ?_) <;> (try simp at hb)) | fail) | (first | refine Zo hc (hk := ?_) | refine Zu hc (hk := ?_) | refine Ze hc (hk := ?_) | refine Zn hc (hk := ?_) | fail))
    all_goals try contradiction
    all_goals try (exfalso; omega)
    · rw [if_pos (hdg.2 ⟨by omega, by omega⟩)] at hn
      exact ⟨j + 1, by omega, by omega, run_back [0, 3, 6, 7] [] (by simp; exact Gives.mk) (by simp; exact Gives.mk) (by simp [hn])⟩
    · rw [if_neg (fun e => by have := hdg.1 e; omega)] at hn
      exact ⟨j + 1, by omega, by omega, run_back [0, 3, 6, 7] [] (by simp; exact Gives.mk) (by simp; exact Gives.mk) (by simp [hn])⟩
  · obtain rfl : j = s.length := by omega
    repeat' (first | (first | refine Ya ?_ | refine Yb ?_ | refine Yc ?_ | refine Yd ?_ | refine Ye ?_ | refine Yf ?_ | refine Yg ?_ | refine Yh ?_ | refine Yi ?_ | refine Yj ?_ | refine Yk ?_ | refine Yl ?_ | refine Ym ?_ | refine Yn ?_ | refine Yo ?_ | refine Yp (h := ?_) | refine Yq ?_ | refine Yr ?_ | refine Ys ?_ | refine Zr hc (hk := ?_) | refine Zd hc (hk := ?_) | (refine Zc (ht := fun hb => ?_) (hf := fun hb => ?_) <;> (try simp at hb)) | fail) | (first | refine Zo hc (hk := ?_) | refine Zu hc (hk := ?_) | refine Ze hc (hk := ?_) | refine Zn hc (hk := ?_) | fail))
    all_goals try contradiction
    all_goals try (exfalso; omega)
    (refine Zl hc (hr := ?_))
    simp [digC]
end Go.Proofs.YtnainpghpjelcaaGreatDoor
/-
  TRAPS: parts, counts (reference). (WITH run_drawN.)
-/
set_option linter.unusedSimpArgs false
set_option linter.unusedVariables false
namespace Go.Proofs.YtnainpghpjelcaaGreatDoor
open Go.Lw Go.RowKit
set_option maxRecDepth 100000
set_option maxHeartbeats 2000000

theorem trimP_ok (s p : Bs) : FnOk Tryz.prog 66 [str s, str p] (str (Lib.trimPrefix s p)) :=
  fnOk_lits [.string (bs s), .string (bs p)] (by kernel_rfl) fun w _ => Tryz.strings_TrimPrefix (bs s) (bs p) w
theorem qDigits_ok (s : Bs) (hm : s.length ≤ 9223372036854775807) : FnOk Tryz.prog 138 [str s] (int (digC s)) := by
  refine fnOk Tryz.func138 rfl (by kernel_rfl) Tryz.ntmps138 _ rfl (by simp) fun C hc => ?_
  repeat' (first | (first | refine Ya ?_ | refine Yb ?_ | refine Yc ?_ | refine Yd ?_ | refine Ye ?_ | refine Yf ?_ | refine Yg ?_ | refine Yh ?_ | refine Yi ?_ | refine Yj ?_ | refine Yk ?_ | refine Yl ?_ | refine Ym ?_ | refine Yn ?_ | refine Yo ?_ | refine Yp (h := ?_) | refine Yq ?_ | refine Yr ?_ | refine Ys ?_ | refine Zr hc (hk := ?_) | refine Zd hc (hk := ?_) | (refine Zc (ht := fun hb => ?_) (hf := fun hb => ?_) <;> (try simp at hb)) | fail) | (first | refine Zo hc (hk := ?_) | refine Zu hc (hk := ?_) | refine Ze hc (hk := ?_) | refine Zn hc (hk := ?_) | fail))
  refine ewp_loop (fun j : Nat => ⟨[(0, .d (str s)), (3, .d (int ((s.take j).countP dgB))), (6, .d (int s.length)), (7, .d (int j))], []⟩) (fun j => j ≤ s.length) (fun j => s.length - j) 0 (by simp) (run_keep [0, 3, 6, 7] [] (by simp; exact Gives.mk) (by simp; exact Gives.mk)) ?_
  intro j hj
  have hle : (s.take j).countP dgB ≤ j := Nat.le_trans List.countP_le_length (by simp; omega)
  by_cases hlt : j < s.length
  · have hn := countP_next dgB 0 s hlt
    have hdg : dgB (s[j]?.getD 0) = true ↔ 48 ≤ (s[j]?.getD 0).toNat ∧ (s[j]?.getD 0).toNat ≤ 57 := by simp [dgB]
    repeat' (first | (first | refine Ya ?_ | refine Yb ?_ | refine Yc ?_ | refine Yd ?_ | refine Ye ?_ | refine Yf ?_ | refine Yg ?_ | refine Yh ?_ | refine Yi ?_ | refine Yj ?_ | refine Yk ?_ | refine Yl ?_ | refine Ym ?_ | refine Yn ?_ | refine Yo ?_ | refine Yp (h := ?_) | refine Yq ?_ | refine Yr ?_ | refine Ys ?_ | refine Zr hc (hk := ?_) | refine Zd hc (hk := ?_) | (refine Zc (ht := fun hb => ?_) (hf := fun hb => ?_) <;> (try simp at hb)) | fail) | (first | refine Zo hc (hk := ?_) | refine Zu hc (hk := ?_) | refine Ze hc (hk := ?_) | refine Zn hc (hk := ?_) | fail))
    all_goals try contradiction
    all_goals try (exfalso; omega)
    · rw [if_pos (hdg.2 ⟨by omega, by omega⟩)] at hn
      exact ⟨j + 1, by omega, by omega, run_back [0, 3, 6, 7] [] (by simp; exact Gives.mk) (by simp; exact Gives.mk) (by simp [hn])⟩
    · rw [if_neg (fun e => by have := hdg.1 e; omega)] at hn
      exact ⟨j + 1, by omega, by omega, run_back [0, 3, 6, 7] [] (by simp; exact Gives.mk) (by simp; exact Gives.mk) (by simp [hn])⟩
  · obtain rfl : j = s.length := by omega
    repeat' (first | (first | refine Ya ?_ | refine Yb ?_ | refine Yc ?_ | refine Yd ?_ | refine Ye ?_ | refine Yf ?_ | refine Yg ?_ | refine Yh ?_ | refine Yi ?_ | refine Yj ?_ | refine Yk ?_ | refine Yl ?_ | refine Ym ?_ | refine Yn ?_ | refine Yo ?_ | refine Yp (h := ?_) | refine Yq ?_ | refine Yr ?_ | refine Ys ?_ | refine Zr hc (hk := ?_) | refine Zd hc (hk := ?_) | (refine Zc (ht := fun hb => ?_) (hf := fun hb => ?_) <;> (try simp at hb)) | fail) | (first | refine Zo hc (hk := ?_) | refine Zu hc (hk := ?_) | refine Ze hc (hk := ?_) | refine Zn hc (hk := ?_) | fail))
    all_goals try contradiction
    all_goals try (exfalso; omega)
    (refine Zl hc (hr := ?_))
    simp [digC]
theorem map_getD {α β : Type} (f : α → β) (o : Option α) (d : α) : (o.map f).getD (f d) = f (o.getD d) := by cases o <;> rfl
/-! The greatest of some numbers. -/
def maxN (l : List Nat) : Nat := l.foldl max 0
theorem foldl_max (l : List Nat) (a : Nat) : l.foldl max a = max a (maxN l) := by
  unfold maxN
  induction l generalizing a with
  | nil => simp
  | cons x r ih => simp only [List.foldl_cons]; rw [ih (max a x), ih (max 0 x)]; omega
theorem maxN_le {l : List Nat} {n : Nat} : maxN l ≤ n ↔ ∀ x ∈ l, x ≤ n := by
  induction l with
  | nil => simp [maxN]
  | cons x r ih =>
    have : maxN (x :: r) = max (max 0 x) (maxN r) := by rw [← foldl_max]; rfl
    rw [this]
    simp only [List.mem_cons, forall_eq_or_imp, ← ih]
    omega
theorem maxN_next (l : List Nat) (d : Nat) {j : Nat} (hj : j < l.length) : maxN (l.take (j + 1)) = max (maxN (l.take j)) (l[j]?.getD d) := by
  rw [List.take_succ_eq_append_getElem hj, List.getElem?_eq_getElem hj]
  unfold maxN
  rw [List.foldl_append]
  rfl
/-- How often one string is in a list at most. -/
def againC (L : List Bs) : Nat := maxN (L.map fun s => L.count s)
def mostC (L : List Bs) : Nat := maxN (L.map digC)
theorem digC_le (s : Bs) : digC s ≤ s.length := List.countP_le_length
theorem againC_le (L : List Bs) : againC L ≤ L.length := maxN_le.2 fun x hx => by
  obtain ⟨s, hs, rfl⟩ := List.mem_map.1 hx
  exact List.count_le_length
theorem most_ok (L : List Bs) (hl : L.length ≤ 9223372036854775807) (hs : ∀ s ∈ L, s.length ≤ 140737488351232) : FnOk Tryz.prog 70 [strSl L] (int (mostC L)) := by
  refine fnOk Tryz.func70 rfl (by kernel_rfl) Tryz.ntmps70 _ rfl (by simp) fun C hc => ?_
  repeat' (first | (first | refine Ya ?_ | refine Yb ?_ | refine Yc ?_ | refine Yd ?_ | refine Ye ?_ | refine Yf ?_ | refine Yg ?_ | refine Yh ?_ | refine Yi ?_ | refine Yj ?_ | refine Yk ?_ | refine Yl ?_ | refine Ym ?_ | refine Yn ?_ | refine Yo ?_ | refine Yp (h := ?_) | refine Yq ?_ | refine Yr ?_ | refine Ys ?_ | refine Zr hc (hk := ?_) | refine Zd hc (hk := ?_) | (refine Zc (ht := fun hb => ?_) (hf := fun hb => ?_) <;> (try simp at hb)) | fail) | (first | refine Zo hc (hk := ?_) | refine Zu hc (hk := ?_) | refine Ze hc (hk := ?_) | refine Zn hc (hk := ?_) | fail))
  refine ewp_loop (fun j : Nat => ⟨[(3, .d (int (maxN ((L.map digC).take j)))), (6, .d (strSl L)), (7, .d (int L.length)), (8, .d (int j))], []⟩) (fun j => j ≤ L.length) (fun j => L.length - j) 0 (by simp [maxN]) (run_keep [3, 6, 7, 8] [] (by simp; exact Gives.mk) (by simp; exact Gives.mk)) ?_
  intro j hj
  by_cases hlt : j < L.length
  · have hw : (wat L j).length ≤ 140737488351232 := by
      simp only [wat, List.getElem?_eq_getElem hlt, Option.getD_some]
      exact hs _ (List.getElem_mem hlt)
    have hD := qDigits_ok (wat L j) (by omega)
    have hn := maxN_next (L.map digC) (digC []) (j := j) (by simpa using hlt)
    rw [List.getElem?_map, map_getD] at hn
    have hb1 := digC_le (wat L j)
    have hb2 : maxN ((L.map digC).take j) ≤ 140737488351232 := maxN_le.2 fun x hx => by
      obtain ⟨s, h1, rfl⟩ := List.mem_map.1 (List.mem_of_mem_take hx)
      exact Nat.le_trans (digC_le s) (hs s h1)
    generalize digC (wat L j) = k at hD hn hb1
    repeat' (first | (first | refine Ya ?_ | refine Yb ?_ | refine Yc ?_ | refine Yd ?_ | refine Ye ?_ | refine Yf ?_ | refine Yg ?_ | refine Yh ?_ | refine Yi ?_ | refine Yj ?_ | refine Yk ?_ | refine Yl ?_ | refine Ym ?_ | refine Yn ?_ | refine Yo ?_ | refine Yp (h := ?_) | refine Yq ?_ | refine Yr ?_ | refine Ys ?_ | refine Zr hc (hk := ?_) | refine Zd hc (hk := ?_) | (refine Zc (ht := fun hb => ?_) (hf := fun hb => ?_) <;> (try simp at hb)) | fail) | (first | refine Zw hc (hf := by exact hD) (hk := ?_) | refine Zq hc (hf := by exact hD) (hk := ?_) | refine Zo hc (hk := ?_) | refine Zu hc (hk := ?_) | refine Ze hc (hk := ?_) | refine Zn hc (hk := ?_) | fail))
    all_goals try contradiction
    all_goals try (exfalso; omega)
    refine ⟨j + 1, by omega, by omega, run_back [3, 6, 7, 8] [] (by simp; exact Gives.mk) (by simp; exact Gives.mk) ?_⟩
    rw [hn]
    generalize maxN ((L.map digC).take j) = m
    simp
    split <;> omega
  · obtain rfl : j = L.length := by omega
    repeat' (first | (first | refine Ya ?_ | refine Yb ?_ | refine Yc ?_ | refine Yd ?_ | refine Ye ?_ | refine Yf ?_ | refine Yg ?_ | refine Yh ?_ | refine Yi ?_ | refine Yj ?_ | refine Yk ?_ | refine Yl ?_ | refine Ym ?_ | refine Yn ?_ | refine Yo ?_ | refine Yp (h := ?_) | refine Yq ?_ | refine Yr ?_ | refine Ys ?_ | refine Zr hc (hk := ?_) | refine Zd hc (hk := ?_) | (refine Zc (ht := fun hb => ?_) (hf := fun hb => ?_) <;> (try simp at hb)) | fail) | (first | refine Zo hc (hk := ?_) | refine Zu hc (hk := ?_) | refine Ze hc (hk := ?_) | refine Zn hc (hk := ?_) | fail))
    all_goals try contradiction
    all_goals try (exfalso; omega)
    (refine Zl hc (hr := ?_))
    simp [mostC]
theorem again_ok (L : List Bs) (hl : L.length ≤ 9223372036854775807) : FnOk Tryz.prog 69 [strSl L] (int (againC L)) := by
  refine fnOk Tryz.func69 rfl (by kernel_rfl) Tryz.ntmps69 _ rfl (by simp) fun C hc => ?_
  repeat' (first | (first | refine Ya ?_ | refine Yb ?_ | refine Yc ?_ | refine Yd ?_ | refine Ye ?_ | refine Yf ?_ | refine Yg ?_ | refine Yh ?_ | refine Yi ?_ | refine Yj ?_ | refine Yk ?_ | refine Yl ?_ | refine Ym ?_ | refine Yn ?_ | refine Yo ?_ | refine Yp (h := ?_) | refine Yq ?_ | refine Yr ?_ | refine Ys ?_ | refine Zr hc (hk := ?_) | refine Zd hc (hk := ?_) | (refine Zc (ht := fun hb => ?_) (hf := fun hb => ?_) <;> (try simp at hb)) | fail) | (first | refine Zo hc (hk := ?_) | refine Zu hc (hk := ?_) | refine Ze hc (hk := ?_) | refine Zn hc (hk := ?_) | fail))
  refine ewp_loop (fun j : Nat => ⟨[(0, .d (strSl L)), (3, .d (int (maxN ((L.map fun s => L.count s).take j)))), (9, .d (strSl L)), (10, .d (int L.length)), (11, .d (int j))], []⟩) (fun j => j ≤ L.length) (fun j => L.length - j) 0 (by simp [maxN]) (run_keep [0, 3, 9, 10, 11] [] (by simp; exact Gives.mk) (by simp; exact Gives.mk)) ?_
  intro j hj
  by_cases hlt : j < L.length
  · have hn := maxN_next (L.map fun s => L.count s) (L.count []) (j := j) (by simpa using hlt)
    rw [List.getElem?_map, map_getD (fun s => L.count s)] at hn
    have hb2 : maxN ((L.map fun s => L.count s).take j) ≤ L.length := maxN_le.2 fun x hx => by
      obtain ⟨s, h1, rfl⟩ := List.mem_map.1 (List.mem_of_mem_take hx)
      exact List.count_le_length
    generalize hm : maxN ((L.map fun s => L.count s).take j) = m at hn hb2 ⊢
    repeat' (first | (first | refine Ya ?_ | refine Yb ?_ | refine Yc ?_ | refine Yd ?_ | refine Ye ?_ | refine Yf ?_ | refine Yg ?_ | refine Yh ?_ | refine Yi ?_ | refine Yj ?_ | refine Yk ?_ | refine Yl ?_ | refine Ym ?_ | refine Yn ?_ | refine Yo ?_ | refine Yp (h := ?_) | refine Yq ?_ | refine Yr ?_ | refine Ys ?_ | refine Zr hc (hk := ?_) | refine Zd hc (hk := ?_) | (refine Zc (ht := fun hb => ?_) (hf := fun hb => ?_) <;> (try simp at hb)) | fail) | (first | refine Zo hc (hk := ?_) | refine Zu hc (hk := ?_) | refine Ze hc (hk := ?_) | refine Zn hc (hk := ?_) | fail))
    all_goals try contradiction
    all_goals try (exfalso; omega)
    refine ewp_loop (fun k : Nat => ⟨[(0, .d (strSl L)), (3, .d (int m)), (5, .d (str (wat L j))), (6, .d (int ((L.take k).countP fun x => x == wat L j))), (9, .d (strSl L)), (10, .d (int L.length)), (11, .d (int j)), (15, .d (strSl L)), (16, .d (int L.length)), (17, .d (int k))], []⟩) (fun k => k ≤ L.length) (fun k => L.length - k) 0 (by simp) (run_keep [0, 3, 5, 6, 9, 10, 11, 15, 16, 17] [] (by simp; exact Gives.mk) (by simp; exact Gives.mk)) ?_
    intro k hk
    have hcl : (L.take k).countP (fun x => x == wat L j) ≤ k := Nat.le_trans List.countP_le_length (by rw [List.length_take]; omega)
    by_cases hlk : k < L.length
    · have hc2 := countP_next (fun x => x == wat L j) [] L hlk
      simp only [beq_iff_eq] at hc2
      repeat' (first | (first | refine Ya ?_ | refine Yb ?_ | refine Yc ?_ | refine Yd ?_ | refine Ye ?_ | refine Yf ?_ | refine Yg ?_ | refine Yh ?_ | refine Yi ?_ | refine Yj ?_ | refine Yk ?_ | refine Yl ?_ | refine Ym ?_ | refine Yn ?_ | refine Yo ?_ | refine Yp (h := ?_) | refine Yq ?_ | refine Yr ?_ | refine Ys ?_ | refine Zr hc (hk := ?_) | refine Zd hc (hk := ?_) | (refine Zc (ht := fun hb => ?_) (hf := fun hb => ?_) <;> (try simp at hb)) | fail) | (first | refine Zo hc (hk := ?_) | refine Zu hc (hk := ?_) | refine Ze hc (hk := ?_) | refine Zn hc (hk := ?_) | fail))
      all_goals try contradiction
      all_goals try (exfalso; omega)
      · rw [if_pos hb] at hc2
        exact ⟨k + 1, by omega, by omega, run_back [0, 3, 5, 6, 9, 10, 11, 15, 16, 17] [] (by simp; exact Gives.mk) (by simp; exact Gives.mk) (by simp [hc2])⟩
      · rw [if_neg hb] at hc2
        exact ⟨k + 1, by omega, by omega, run_back [0, 3, 5, 6, 9, 10, 11, 15, 16, 17] [] (by simp; exact Gives.mk) (by simp; exact Gives.mk) (by simp [hc2])⟩
    · obtain rfl : k = L.length := by omega
      rw [List.take_length] at hcl ⊢
      have hcc : L.countP (fun x => x == wat L j) = L.count (wat L j) := rfl
      rw [hcc] at hcl ⊢
      generalize L.count (wat L j) = c at hn hcl ⊢
      repeat' (first | (first | refine Ya ?_ | refine Yb ?_ | refine Yc ?_ | refine Yd ?_ | refine Ye ?_ | refine Yf ?_ | refine Yg ?_ | refine Yh ?_ | refine Yi ?_ | refine Yj ?_ | refine Yk ?_ | refine Yl ?_ | refine Ym ?_ | refine Yn ?_ | refine Yo ?_ | refine Yp (h := ?_) | refine Yq ?_ | refine Yr ?_ | refine Ys ?_ | refine Zr hc (hk := ?_) | refine Zd hc (hk := ?_) | (refine Zc (ht := fun hb => ?_) (hf := fun hb => ?_) <;> (try simp at hb)) | fail) | (first | refine Zo hc (hk := ?_) | refine Zu hc (hk := ?_) | refine Ze hc (hk := ?_) | refine Zn hc (hk := ?_) | fail))
      all_goals try contradiction
      all_goals try (exfalso; omega)
      refine ⟨j + 1, by omega, by omega, run_back [0, 3, 9, 10, 11] [] (by simp; exact Gives.mk) (by simp; exact Gives.mk) ?_⟩
      rw [hn]
      simp
      split <;> omega
  · obtain rfl : j = L.length := by omega
    repeat' (first | (first | refine Ya ?_ | refine Yb ?_ | refine Yc ?_ | refine Yd ?_ | refine Ye ?_ | refine Yf ?_ | refine Yg ?_ | refine Yh ?_ | refine Yi ?_ | refine Yj ?_ | refine Yk ?_ | refine Yl ?_ | refine Ym ?_ | refine Yn ?_ | refine Yo ?_ | refine Yp (h := ?_) | refine Yq ?_ | refine Yr ?_ | refine Ys ?_ | refine Zr hc (hk := ?_) | refine Zd hc (hk := ?_) | (refine Zc (ht := fun hb => ?_) (hf := fun hb => ?_) <;> (try simp at hb)) | fail) | (first | refine Zo hc (hk := ?_) | refine Zu hc (hk := ?_) | refine Ze hc (hk := ?_) | refine Zn hc (hk := ?_) | fail))
    all_goals try contradiction
    all_goals try (exfalso; omega)
    (refine Zl hc (hr := ?_))
    simp [againC]
/-- Rows between marks that are not empty. -/
def partsOf (s : Bs) (c : UInt8) : List Bs := (Lib.split s [c]).filter fun x => !decide (x = [])
theorem filter_next {L : List Bs} (p : Bs → Bool) {j : Nat} (hj : j < L.length) : (L.take (j + 1)).filter p = (L.take j).filter p ++ if p (wat L j) = true then [wat L j] else [] := by
  rw [List.take_succ_eq_append_getElem hj, List.filter_append]
  simp only [wat, List.getElem?_eq_getElem hj, Option.getD_some, List.filter_cons, List.filter_nil]
theorem parts_ok (s : Bs) (c : UInt8) (hs : s.length ≤ 2000) : FnOk Tryz.prog 67 [str s, str [c]] (strSl (partsOf s c)) := by
  refine fnOk Tryz.func67 rfl (by kernel_rfl) Tryz.ntmps67 _ rfl (by simp) fun C hc => ?_
  have hS := split_ok s c (by omega)
  unfold partsOf
  have hSl : (Lib.split s [c]).length ≤ 2002 := by have := split_len s c; omega
  generalize Lib.split s [c] = L at hS hSl ⊢
  repeat' (first | (first | refine Ya ?_ | refine Yb ?_ | refine Yc ?_ | refine Yd ?_ | refine Ye ?_ | refine Yf ?_ | refine Yg ?_ | refine Yh ?_ | refine Yi ?_ | refine Yj ?_ | refine Yk ?_ | refine Yl ?_ | refine Ym ?_ | refine Yn ?_ | refine Yo ?_ | refine Yp (h := ?_) | refine Yq ?_ | refine Yr ?_ | refine Ys ?_ | refine Zr hc (hk := ?_) | refine Zd hc (hk := ?_) | (refine Zc (ht := fun hb => ?_) (hf := fun hb => ?_) <;> (try simp at hb)) | fail) | (first | refine Zw hc (hf := by exact hS) (hk := ?_) | refine Zq hc (hf := by exact hS) (hk := ?_) | refine Zo hc (hk := ?_) | refine Zu hc (hk := ?_) | refine Ze hc (hk := ?_) | refine Zn hc (hk := ?_) | fail))
  refine ewp_loop (fun j : Nat => ⟨[(5, .os 40001 ((L.take j).filter fun x => !decide (x = [])).length), (10, .d (strSl L)), (11, .d (int L.length)), (12, .d (int j))], [(40001, .own 9 1 (true, [str []]) (((L.take j).filter fun x => !decide (x = [])).map fun x => [str x]))]⟩) (fun j => j ≤ L.length) (fun j => L.length - j) 0 (by simp) (run_keepB [(5, none, 40001, 9, [str []])] [5, 10, 11, 12] [40001] (by simp; exact Gives.mk) (by simp; exact Gives.mk) (by simp; exact Gives.mk)) ?_
  intro j hj
  have hfl : ((L.take j).filter fun x => !decide (x = [])).length ≤ 2002 := Nat.le_trans (List.length_filter_le _ _) (by simp; omega)
  by_cases hlt : j < L.length
  · have hn := filter_next (fun x => !decide (x = [])) hlt
    repeat' (first | (first | refine Ya ?_ | refine Yb ?_ | refine Yc ?_ | refine Yd ?_ | refine Ye ?_ | refine Yf ?_ | refine Yg ?_ | refine Yh ?_ | refine Yi ?_ | refine Yj ?_ | refine Yk ?_ | refine Yl ?_ | refine Ym ?_ | refine Yn ?_ | refine Yo ?_ | refine Yp (h := ?_) | refine Yq ?_ | refine Yr ?_ | refine Ys ?_ | refine Zr hc (hk := ?_) | refine Zd hc (hk := ?_) | (refine Zc (ht := fun hb => ?_) (hf := fun hb => ?_) <;> (try simp at hb)) | fail) | (first | refine Zo hc (hk := ?_) | refine Zu hc (hk := ?_) | refine Ze hc (hk := ?_) | refine Zn hc (hk := ?_) | fail))
    all_goals try contradiction
    all_goals try (exfalso; omega)
    · rw [if_pos (by simpa using hb)] at hn
      exact ⟨j + 1, by omega, by omega, run_back [5, 10, 11, 12] [40001] (by simp; exact Gives.mk) (by simp; exact Gives.mk) (by simp [hn])⟩
    · rw [if_neg (by simpa using hb), List.append_nil] at hn
      exact ⟨j + 1, by omega, by omega, run_back [5, 10, 11, 12] [40001] (by simp; exact Gives.mk) (by simp; exact Gives.mk) (by simp [hn])⟩
  · obtain rfl : j = L.length := by omega
    rw [List.take_length] at hfl ⊢
    generalize L.filter (fun x => !decide (x = [])) = K at hfl ⊢
    repeat' (first | (first | refine Ya ?_ | refine Yb ?_ | refine Yc ?_ | refine Yd ?_ | refine Ye ?_ | refine Yf ?_ | refine Yg ?_ | refine Yh ?_ | refine Yi ?_ | refine Yj ?_ | refine Yk ?_ | refine Yl ?_ | refine Ym ?_ | refine Yn ?_ | refine Yo ?_ | refine Yp (h := ?_) | refine Yq ?_ | refine Yr ?_ | refine Ys ?_ | refine Zr hc (hk := ?_) | refine Zd hc (hk := ?_) | (refine Zc (ht := fun hb => ?_) (hf := fun hb => ?_) <;> (try simp at hb)) | fail) | (first | refine Zo hc (hk := ?_) | refine Zu hc (hk := ?_) | refine Ze hc (hk := ?_) | refine Zn hc (hk := ?_) | fail))
    all_goals try contradiction
    all_goals try (exfalso; omega)
    (refine Zl hc (hr := ?_))
    simp
end Go.Proofs.YtnainpghpjelcaaGreatDoor
/-
  TRAPS: Trapped (reference). (WITH run_drawN.)
-/
set_option linter.unusedSimpArgs false
set_option linter.unusedVariables false
namespace Go.Proofs.YtnainpghpjelcaaGreatDoor
open Go.Lw Go.RowKit
set_option maxRecDepth 100000
set_option maxHeartbeats 2000000

theorem cut_lens (s : Bs) (c : UInt8) : (Lib.cut s [c]).1.length ≤ s.length ∧ (Lib.cut s [c]).2.1.length ≤ s.length := by
  unfold Lib.cut
  split <;> simp
  all_goals omega
theorem trimP_len (s p : Bs) : (Lib.trimPrefix s p).length ≤ s.length := by
  unfold Lib.trimPrefix
  split <;> simp
/-- A key's path, its query, and whether it has one. -/
def pathOf (k : Bs) : Bs × Bs × Bool := Lib.cut (Lib.trimPrefix (Lib.cut k [41]).2.1 [115]) [63]
theorem pathOf_lens (k : Bs) : (pathOf k).1.length ≤ k.length ∧ (pathOf k).2.1.length ≤ k.length := by
  have h1 := cut_lens k 41
  have h2 := trimP_len (Lib.cut k [41]).2.1 [115]
  have h3 := cut_lens (Lib.trimPrefix (Lib.cut k [41]).2.1 [115]) 63
  unfold pathOf
  omega
def askedOf (k : Bs) : List Bs := if (pathOf k).2.2 = true then Lib.split (pathOf k).2.1 [38] else []
def trapC (b : Trp) (k : Bs) : Nat :=
  if b.len < (k.length : Int) then 1 else if b.depth < ((partsOf (pathOf k).1 47).length : Int) then 2 else if b.again < (againC (partsOf (pathOf k).1 47) : Int) then 3 else if b.parts < ((askedOf k).length : Int) then 4
  else if b.digits < max (mostC (partsOf (pathOf k).1 47) : Int) (mostC (askedOf k) : Int) then 5 else 0
def trapD (b : Trp) (k : Bs) : D := if boundsE b ≠ 0 then .tup [int 0, int (boundsE b)] else if (ofK k).2 ≠ 0 then .tup [int 0, int (ofK k).2] else .tup [int (trapC b k), int 0]
theorem mostNil_ok : FnOk Tryz.prog 70 [.lit (.slice none 0 0)] (int 0) := by
  refine fnOk Tryz.func70 rfl (by kernel_rfl) Tryz.ntmps70 _ rfl (by simp) fun C hc => ?_
  repeat' (first | (first | refine Ya ?_ | refine Yb ?_ | refine Yc ?_ | refine Yd ?_ | refine Ye ?_ | refine Yf ?_ | refine Yg ?_ | refine Yh ?_ | refine Yi ?_ | refine Yj ?_ | refine Yk ?_ | refine Yl ?_ | refine Ym ?_ | refine Yn ?_ | refine Yo ?_ | refine Yp (h := ?_) | refine Yq ?_ | refine Yr ?_ | refine Ys ?_ | refine Zr hc (hk := ?_) | refine Zd hc (hk := ?_) | (refine Zc (ht := fun hb => ?_) (hf := fun hb => ?_) <;> (try simp at hb)) | fail) | (first | refine Zo hc (hk := ?_) | refine Zu hc (hk := ?_) | refine Ze hc (hk := ?_) | refine Zn hc (hk := ?_) | fail))
  refine ewp_loop (fun _ : Unit => ⟨[(3, .d (int 0)), (7, .d (int 0)), (8, .d (int 0))], []⟩) (fun _ => True) (fun _ => 0) () trivial (run_keep [3, 7, 8] [] (by simp; exact Gives.mk) (by simp; exact Gives.mk)) ?_
  intro _ _
  repeat' (first | (first | refine Ya ?_ | refine Yb ?_ | refine Yc ?_ | refine Yd ?_ | refine Ye ?_ | refine Yf ?_ | refine Yg ?_ | refine Yh ?_ | refine Yi ?_ | refine Yj ?_ | refine Yk ?_ | refine Yl ?_ | refine Ym ?_ | refine Yn ?_ | refine Yo ?_ | refine Yp (h := ?_) | refine Yq ?_ | refine Yr ?_ | refine Ys ?_ | refine Zr hc (hk := ?_) | refine Zd hc (hk := ?_) | (refine Zc (ht := fun hb => ?_) (hf := fun hb => ?_) <;> (try simp at hb)) | fail) | (first | refine Zo hc (hk := ?_) | refine Zu hc (hk := ?_) | refine Ze hc (hk := ?_) | refine Zn hc (hk := ?_) | fail))
  all_goals try contradiction
  (refine Zl hc (hr := ?_))
  simp
theorem parts_lens (s : Bs) (c : UInt8) (hs : s.length ≤ 2002) : (partsOf s c).length ≤ 2004 ∧ ∀ x ∈ partsOf s c, x.length ≤ 2002 := by
  have h1 := split_len s c
  refine ⟨Nat.le_trans (List.length_filter_le _ _) (by omega), fun x hx => ?_⟩
  have := split_each c s x ((List.mem_filter.1 hx).1)
  omega
theorem qTrapped_ok (b : Trp) (k : Bs) (hk : k.length ≤ 9223372036854775807) : FnOk Tryz.prog 21 [trpD b, str k] (trapD b k) := by
  refine fnOk Tryz.func21 rfl (by kernel_rfl) Tryz.ntmps21 _ rfl (by simp) fun C hc => ?_
  have hB := qCheckBounds_ok b
  have hO := qOfKey_ok k hk
  unfold trapD
  by_cases h1 : boundsE b = 0
  rotate_left
  · rw [if_pos h1]
    have h1' : ¬ (boundsE b : Int) = 0 := by omega
    generalize boundsE b = e at hB h1 h1' ⊢
    repeat' (first | (first | refine Ya ?_ | refine Yb ?_ | refine Yc ?_ | refine Yd ?_ | refine Ye ?_ | refine Yf ?_ | refine Yg ?_ | refine Yh ?_ | refine Yi ?_ | refine Yj ?_ | refine Yk ?_ | refine Yl ?_ | refine Ym ?_ | refine Yn ?_ | refine Yo ?_ | refine Yp (h := ?_) | refine Yq ?_ | refine Yr ?_ | refine Ys ?_ | refine Zr hc (hk := ?_) | refine Zd hc (hk := ?_) | (refine Zc (ht := fun hb => ?_) (hf := fun hb => ?_) <;> (try simp at hb)) | fail) | (first | refine Zw hc (hf := by exact hB) (hk := ?_) | refine Zq hc (hf := by exact hB) (hk := ?_) | refine Zo hc (hk := ?_) | refine Zu hc (hk := ?_) | refine Ze hc (hk := ?_) | refine Zn hc (hk := ?_) | fail))
    all_goals try contradiction
    (refine Zl hc (hr := ?_))
    simp
  rw [if_neg (fun e => e h1)]
  rw [h1] at hB
  have hO2 := ofK_cases k
  by_cases h2 : (ofK k).2 = 0
  rotate_left
  · rw [if_pos h2]
    have h2' : ¬ ((ofK k).2 : Int) = 0 := by omega
    generalize ofK k = r at hO h2 h2' ⊢
    obtain ⟨r1, r2⟩ := r
    simp only at hO h2 h2' ⊢
    repeat' (first | (first | refine Ya ?_ | refine Yb ?_ | refine Yc ?_ | refine Yd ?_ | refine Ye ?_ | refine Yf ?_ | refine Yg ?_ | refine Yh ?_ | refine Yi ?_ | refine Yj ?_ | refine Yk ?_ | refine Yl ?_ | refine Ym ?_ | refine Yn ?_ | refine Yo ?_ | refine Yp (h := ?_) | refine Yq ?_ | refine Yr ?_ | refine Ys ?_ | refine Zr hc (hk := ?_) | refine Zd hc (hk := ?_) | (refine Zc (ht := fun hb => ?_) (hf := fun hb => ?_) <;> (try simp at hb)) | fail) | (first | refine Zw hc (hf := by first | exact hB | exact hO) (hk := ?_) | refine Zq hc (hf := by first | exact hB | exact hO) (hk := ?_) | refine Zo hc (hk := ?_) | refine Zu hc (hk := ?_) | refine Ze hc (hk := ?_) | refine Zn hc (hk := ?_) | fail))
    all_goals try contradiction
    (refine Zl hc (hr := ?_))
    simp
  rw [if_neg (fun e => e h2)]
  rcases hO2 with h3 | ⟨_, h4, _⟩
  · exact absurd h2 h3.1
  rw [h2] at hO
  clear h1 h2
  have l1 := cut_lens k 41
  have l2 := trimP_len (Lib.cut k [41]).2.1 [115]
  have l3 := pathOf_lens k
  have hC1 := cut_ok k 41 (by omega)
  have hT := trimP_ok (Lib.cut k [41]).2.1 [115]
  have hC2 := cut_ok (Lib.trimPrefix (Lib.cut k [41]).2.1 [115]) 63 (by omega)
  have hP := parts_ok (pathOf k).1 47 (by omega)
  have hQ := split_ok (pathOf k).2.1 38 (by omega)
  have l4 := parts_lens (pathOf k).1 47 (by omega)
  have l5 := split_len (pathOf k).2.1 38
  have hA := again_ok (partsOf (pathOf k).1 47) (by omega)
  have hM1 := most_ok (partsOf (pathOf k).1 47) (by omega) (fun s hs => by have := l4.2 s hs; omega)
  have hM2 := most_ok (Lib.split (pathOf k).2.1 [38]) (by omega) (fun s hs => by have := split_each 38 _ s hs; omega)
  have hM0 := mostNil_ok
  unfold trapC askedOf
  have hpe : pathOf k = Lib.cut (Lib.trimPrefix (Lib.cut k [41]).2.1 [115]) [63] := rfl
  rw [← hpe] at hC2
  generalize Lib.trimPrefix (Lib.cut k [41]).2.1 [115] = t at hT hC2 l2 hpe
  clear hpe
  generalize Lib.cut k [41] = c1 at hC1 hT l1 l2
  obtain ⟨c11, c12, c13⟩ := c1
  generalize pathOf k = p at hC2 hP hQ l3 l4 l5 hA hM1 hM2 ⊢
  obtain ⟨p1, p2, p3⟩ := p
  simp only at hC1 hT hC2 hP hQ l3 l4 l5 hA hM1 hM2 ⊢
  generalize partsOf p1 47 = A at hP l4 hA hM1 ⊢
  generalize Lib.split p2 [38] = B at hQ l5 hM2 ⊢
  generalize againC A = n1 at hA ⊢
  generalize mostC A = n2 at hM1 ⊢
  cases p3
  · have e0 : mostC [] = 0 := rfl
    simp only [Bool.false_eq_true, if_false, List.length_nil, e0]
    repeat' (first | (first | refine Ya ?_ | refine Yb ?_ | refine Yc ?_ | refine Yd ?_ | refine Ye ?_ | refine Yf ?_ | refine Yg ?_ | refine Yh ?_ | refine Yi ?_ | refine Yj ?_ | refine Yk ?_ | refine Yl ?_ | refine Ym ?_ | refine Yn ?_ | refine Yo ?_ | refine Yp (h := ?_) | refine Yq ?_ | refine Yr ?_ | refine Ys ?_ | refine Zr hc (hk := ?_) | refine Zd hc (hk := ?_) | (refine Zc (ht := fun hb => ?_) (hf := fun hb => ?_) <;> (try simp at hb)) | fail) | (first | refine Zw hc (hf := by first | exact hB | exact hO | exact hC1 | exact hT | exact hC2 | exact hP | exact hA | exact hM1 | exact hM0) (hk := ?_) | refine Zq hc (hf := by first | exact hB | exact hO | exact hC1 | exact hT | exact hC2 | exact hP | exact hA | exact hM1 | exact hM0) (hk := ?_) | refine Zo hc (hk := ?_) | refine Zu hc (hk := ?_) | refine Ze hc (hk := ?_) | refine Zn hc (hk := ?_) | fail))
    all_goals try contradiction
    all_goals (refine Zl hc (hr := ?_))
    all_goals (simp only [resD]; (repeat' split) <;> first | rfl | (exfalso; omega) | (exfalso; split at hb <;> omega))
  · simp only [if_true]
    generalize mostC B = n3 at hM2 ⊢
    repeat' (first | (first | refine Ya ?_ | refine Yb ?_ | refine Yc ?_ | refine Yd ?_ | refine Ye ?_ | refine Yf ?_ | refine Yg ?_ | refine Yh ?_ | refine Yi ?_ | refine Yj ?_ | refine Yk ?_ | refine Yl ?_ | refine Ym ?_ | refine Yn ?_ | refine Yo ?_ | refine Yp (h := ?_) | refine Yq ?_ | refine Yr ?_ | refine Ys ?_ | refine Zr hc (hk := ?_) | refine Zd hc (hk := ?_) | (refine Zc (ht := fun hb => ?_) (hf := fun hb => ?_) <;> (try simp at hb)) | fail) | (first | refine Zw hc (hf := by first | exact hB | exact hO | exact hC1 | exact hT | exact hC2 | exact hP | exact hQ | exact hA | exact hM1 | exact hM2) (hk := ?_) | refine Zq hc (hf := by first | exact hB | exact hO | exact hC1 | exact hT | exact hC2 | exact hP | exact hQ | exact hA | exact hM1 | exact hM2) (hk := ?_) | refine Zo hc (hk := ?_) | refine Zu hc (hk := ?_) | refine Ze hc (hk := ?_) | refine Zn hc (hk := ?_) | fail))
    all_goals try contradiction
    all_goals (refine Zl hc (hr := ?_))
    all_goals (simp only [resD]; (repeat' split) <;> first | rfl | (exfalso; omega) | (exfalso; split at hb <;> omega))
end Go.Proofs.YtnainpghpjelcaaGreatDoor
