/-
  FRONTIER: FrontierWaitIsTheFirst's own walk. (WITH run_drawN.)
-/
import Derived.Test.YtnainpghpjelcaaGreatDoorFnD
import Derived.Test.YtnainpghpjelcaaGreatDoorFnL
set_option linter.unusedSimpArgs false
set_option linter.unusedVariables false
namespace Go.Proofs.YtnainpghpjelcaaGreatDoor
open Go.Lw Go.RowKit Go.ChangeShapes Go.WideShapes Go.ChangeAt
set_option maxRecDepth 100000
set_option maxHeartbeats 2000000

/-- A number reduced to the range from 0 to n - 1. -/
def belowP (x n : Int) : Int := if x.tmod n < 0 then x.tmod n + n else x.tmod n
theorem below_range (x n : Int) (hn : 0 < n) : 0 ≤ belowP x n ∧ belowP x n < n := by
  unfold belowP
  have h1 := Int.tmod_lt_of_pos x hn
  have h2 : -n < x.tmod n := by
    rcases Int.le_total 0 x with h | h
    · have := Int.tmod_nonneg n h
      omega
    · have h3 := Int.tmod_lt_of_pos (-x) hn
      rw [Int.neg_tmod] at h3
      omega
  split <;> omega
theorem below_ok (x n : Int) (hx : inR .i64 x) (hn : 0 < n) (hn2 : n ≤ 9223372036854775807) : FnOk Tryz.prog 17 [int x, int n] (int (belowP x n)) := by
  refine fnOk Tryz.func17 rfl (by kernel_rfl) Tryz.ntmps17 _ rfl (by simp) fun C hc => ?_
  have h0 := below_range x n hn
  unfold belowP at h0 ⊢
  have h1 := Int.tmod_lt_of_pos x hn
  repeat' (first | (first | refine Ya ?_ | refine Yb ?_ | refine Yc ?_ | refine Yd ?_ | refine Ye ?_ | refine Yf ?_ | refine Yg ?_ | refine Yh ?_ | refine Yi ?_ | refine Yj ?_ | refine Yk ?_ | refine Yl ?_ | refine Ym ?_ | refine Yn ?_ | refine Yo ?_ | refine Yp (h := ?_) | refine Yq ?_ | refine Yr ?_ | refine Ys ?_ | refine Zr hc (hk := ?_) | refine Zd hc (hk := ?_) | (refine Zc (ht := fun hb => ?_) (hf := fun hb => ?_) <;> (try simp at hb)) | fail) | (first | refine Zo hc (hk := ?_) | refine Zu hc (hk := ?_) | refine Ze hc (hk := ?_) | refine Zn hc (hk := ?_) | fail))
  · rw [if_pos hb] at h0 ⊢
    repeat' (first | (first | refine Ya ?_ | refine Yb ?_ | refine Yc ?_ | refine Yd ?_ | refine Ye ?_ | refine Yf ?_ | refine Yg ?_ | refine Yh ?_ | refine Yi ?_ | refine Yj ?_ | refine Yk ?_ | refine Yl ?_ | refine Ym ?_ | refine Yn ?_ | refine Yo ?_ | refine Yp (h := ?_) | refine Yq ?_ | refine Yr ?_ | refine Ys ?_ | refine Zr hc (hk := ?_) | refine Zd hc (hk := ?_) | (refine Zc (ht := fun hb => ?_) (hf := fun hb => ?_) <;> (try simp at hb)) | fail) | (first | refine Zo hc (hk := ?_) | refine Zu hc (hk := ?_) | refine Ze hc (hk := ?_) | refine Zn hc (hk := ?_) | fail))
    (refine Zl hc (hr := ?_))
    simp
  · rw [if_neg (by omega)] at h0 ⊢
    (refine Zl hc (hr := ?_))
    simp
/-! The plain law. -/
theorem nextGo_mono (L : List Wnt) (r : Wnt → Bool) (j : Nat) (b : Int) (hb : 0 ≤ b) : 0 ≤ nextGo L r j b := by
  rw [nextGo]
  split
  · refine nextGo_mono L r (j + 1) _ ?_
    split <;> omega
  · exact hb
termination_by L.length - j
theorem nextGo_yes (L : List Wnt) (r : Wnt → Bool) (j : Nat) (b : Int) (i : Nat) (hi : j ≤ i) (hl : i < L.length) (hr : r (wntAt L i) = true) : 0 ≤ nextGo L r j b := by
  rw [nextGo, if_pos (by omega)]
  rcases Nat.lt_or_ge j i with h | h
  · exact nextGo_yes L r (j + 1) _ i (by omega) hl hr
  · obtain rfl : i = j := by omega
    by_cases hc : r (wntAt L i) = true ∧ (b < 0 ∨ better (wntAt L i) (wntAt L b.toNat))
    · rw [if_pos hc]
      exact nextGo_mono L r (i + 1) _ (by omega)
    · rw [if_neg hc]
      refine nextGo_mono L r (i + 1) _ ?_
      rcases Int.lt_or_le b 0 with h1 | h1
      · exact absurd ⟨hr, .inl h1⟩ hc
      · exact h1
termination_by L.length - j
theorem nextGo_no (L : List Wnt) (r : Wnt → Bool) (j : Nat) (h : ∀ i, j ≤ i → i < L.length → r (wntAt L i) = false) : nextGo L r j (-1) = -1 := by
  rw [nextGo]
  split
  · rename_i hj
    rw [if_neg (fun e => by rw [h j (Nat.le_refl _) hj] at e; exact absurd e.1 (by decide))]
    exact nextGo_no L r (j + 1) fun i hi hl => h i (by omega) hl
  · rfl
termination_by L.length - j
/-- What Wait hands back: the first of the moments; or there is none. -/
theorem waitGo_spec (L : List Wnt) (n : Wnt → Int) (o : Wnt → Bool) (hn : ∀ x, 0 ≤ n x) (j : Nat) (b : Int) :
    (b < 0 ∧ (waitGo L n o j b = b ∧ ∀ i, j ≤ i → i < L.length → ¬ (o (wntAt L i) = true ∧ n (wntAt L i) ≤ 253402300799))) ∨
    (0 ≤ waitGo L n o j b ∧ (0 ≤ b → waitGo L n o j b ≤ b) ∧ (∀ i, j ≤ i → i < L.length → o (wntAt L i) = true → n (wntAt L i) ≤ 253402300799 → waitGo L n o j b ≤ n (wntAt L i)) ∧
      ((0 ≤ b ∧ waitGo L n o j b = b) ∨ ∃ i, j ≤ i ∧ i < L.length ∧ o (wntAt L i) = true ∧ n (wntAt L i) ≤ 253402300799 ∧ waitGo L n o j b = n (wntAt L i))) := by
  rw [waitGo]
  split
  · rename_i hj
    by_cases hc : o (wntAt L j) = true ∧ n (wntAt L j) ≤ 253402300799 ∧ (b < 0 ∨ n (wntAt L j) < b)
    · rw [if_pos hc]
      have hz := hn (wntAt L j)
      rcases waitGo_spec L n o hn (j + 1) (n (wntAt L j)) with ⟨h1, _⟩ | ⟨h1, h2, h3, h4⟩
      · omega
      · have h2 := h2 hz
        refine .inr ⟨h1, fun hb => by omega, fun i hi hl ho hm => ?_, .inr ?_⟩
        · rcases Nat.lt_or_ge j i with h | h
          · exact h3 i (by omega) hl ho hm
          · obtain rfl : i = j := by omega
            exact h2
        · rcases h4 with ⟨_, h4⟩ | ⟨i, h5, h6, h7, h8, h9⟩
          · exact ⟨j, Nat.le_refl _, hj, hc.1, hc.2.1, h4⟩
          · exact ⟨i, by omega, h6, h7, h8, h9⟩
    · rw [if_neg hc]
      rcases waitGo_spec L n o hn (j + 1) b with ⟨h1, h2, h3⟩ | ⟨h1, h2, h3, h4⟩
      · refine .inl ⟨h1, h2, fun i hi hl => ?_⟩
        rcases Nat.lt_or_ge j i with h | h
        · exact h3 i (by omega) hl
        · obtain rfl : i = j := by omega
          exact fun e => hc ⟨e.1, e.2, .inl h1⟩
      · refine .inr ⟨h1, h2, fun i hi hl ho hm => ?_, ?_⟩
        · rcases Nat.lt_or_ge j i with h | h
          · exact h3 i (by omega) hl ho hm
          · obtain rfl : i = j := by omega
            rcases Int.lt_or_le b 0 with hb | hb
            · exact absurd ⟨ho, hm, .inl hb⟩ hc
            · have := h2 hb
              rcases Int.lt_or_le (n (wntAt L i)) b with hk | hk
              · exact absurd ⟨ho, hm, .inr hk⟩ hc
              · omega
        · rcases h4 with h4 | ⟨i, h5, h6⟩
          · exact .inl h4
          · exact .inr ⟨i, by omega, h6⟩
  · rename_i hj
    rcases Int.lt_or_le b 0 with hb | hb
    · exact .inl ⟨hb, rfl, fun i hi hl => by omega⟩
    · exact .inr ⟨hb, fun _ => Int.le_refl _, fun i hi hl => by omega, .inl ⟨hb, rfl⟩⟩
termination_by L.length - j
/-- An item may be fetched at a moment from one on just from its own moment on. -/
theorem rdy_iff (f : Frt) (t u : Int) (x : Wnt) (htu : t ≤ u) : rdyP f u x = true ↔ (opnP f x = true ∧ waitN f t x ≤ u) := by
  unfold rdyP opnP waitN
  simp only [Bool.and_eq_true, decide_eq_true_eq]
  constructor
  · rintro ⟨⟨h1, h2⟩, h3⟩
    exact ⟨h2, by omega⟩
  · rintro ⟨h1, h2⟩
    exact ⟨⟨by omega, h1⟩, by omega⟩
theorem waitFirst_ok (f : Frt) (t p : Int) (hf : FrOk f) (hp : inR .i64 p) : FnOk Tryz.prog 3 [frD f, int t, int p] (tru true) := by
  refine fnOk Tryz.func3 rfl (by kernel_rfl) Tryz.ntmps3 _ rfl (by simp) fun C hc => ?_
  have h1 := wait_ok f t hf
  by_cases h0 : atE f t = 0
  rotate_left
  · have e : waitC f t = (0, atE f t) := by unfold waitC; rw [if_pos h0]
    rw [e] at h1
    generalize atE f t = k at h0 h1
    repeat' (first | (first | refine Ya ?_ | refine Yb ?_ | refine Yc ?_ | refine Yd ?_ | refine Ye ?_ | refine Yf ?_ | refine Yg ?_ | refine Yh ?_ | refine Yi ?_ | refine Yj ?_ | refine Yk ?_ | refine Yl ?_ | refine Ym ?_ | refine Yn ?_ | refine Yo ?_ | refine Yp (h := ?_) | refine Yq ?_ | refine Yr ?_ | refine Ys ?_ | refine Zr hc (hk := ?_) | refine Zd hc (hk := ?_) | (refine Zc (ht := fun hb => ?_) (hf := fun hb => ?_) <;> (try simp at hb)) | fail) | (first | refine Zw hc (hf := by first | exact h1 | exact awake5_ok) (hk := ?_) | refine Zq hc (hf := by first | exact h1 | exact awake5_ok) (hk := ?_) | refine Zo hc (hk := ?_) | refine Zu hc (hk := ?_) | refine Ze hc (hk := ?_) | refine Zn hc (hk := ?_) | fail))
    all_goals try contradiction
    (refine Zl hc (hr := ?_))
    simp
  obtain ⟨hg, ht⟩ := atE_good h0
  have hfr : frE f = 0 := Classical.byContradiction fun e => by
    unfold atE at h0
    rw [if_pos e] at h0
    exact e h0
  have hat : ∀ u, okM u → atE f u = 0 := fun u hu => by
    unfold atE
    rw [if_neg (fun e => e hfr), if_neg (by simpa using hu)]
  have e : waitC f t = (waitGo f.items (waitN f t) (opnP f) 0 (-1), 0) := by unfold waitC; rw [if_neg (fun e => e h0)]
  rw [e] at h1
  have hnn : ∀ x, 0 ≤ waitN f t x := fun x => by unfold waitN; have := ht.1; omega
  have hge : ∀ x, t ≤ waitN f t x := fun x => by unfold waitN; omega
  have hsp := waitGo_spec f.items (waitN f t) (opnP f) hnn 0 (-1)
  have hF := nextF_ok f
  have hno : ∀ u, t ≤ u → okM u → (∀ i, i < f.items.length → ¬ (opnP f (wntAt f.items i) = true ∧ waitN f t (wntAt f.items i) ≤ u)) → nextC f u = (0, false, 0) := fun u hu hm hx => by
    unfold nextC
    rw [if_neg (fun e => e (hat u hm)), nextGo_no f.items _ 0 fun i _ hl => Bool.eq_false_iff.2 fun e => hx i hl ((rdy_iff f t u _ hu).1 e)]
    rfl
  generalize waitGo f.items (waitN f t) (opnP f) 0 (-1) = n at h1 hsp
  rcases hsp with ⟨_, rfl, hx⟩ | ⟨hn0, _, hle, hex⟩
  · -- nothing will ever be next
    have hb := below_range p (253402300800 - t) (by have := ht.2; omega)
    have h2 := below_ok p (253402300800 - t) hp (by have := ht.2; omega) (by have := ht.1; omega)
    have h3 := hF (t + belowP p (253402300800 - t)) hf
    rw [hno _ (by omega) ⟨by have := ht.1; omega, by omega⟩ (fun i hl hi => hx i (Nat.zero_le _) hl ⟨hi.1, by omega⟩)] at h3
    generalize belowP p (253402300800 - t) = q at hb h2 h3
    have ht1 := ht.1
    have ht2 := ht.2
    repeat' (first | (first | refine Ya ?_ | refine Yb ?_ | refine Yc ?_ | refine Yd ?_ | refine Ye ?_ | refine Yf ?_ | refine Yg ?_ | refine Yh ?_ | refine Yi ?_ | refine Yj ?_ | refine Yk ?_ | refine Yl ?_ | refine Ym ?_ | refine Yn ?_ | refine Yo ?_ | refine Yp (h := ?_) | refine Yq ?_ | refine Yr ?_ | refine Ys ?_ | refine Zr hc (hk := ?_) | refine Zd hc (hk := ?_) | (refine Zc (ht := fun hb => ?_) (hf := fun hb => ?_) <;> (try simp at hb)) | fail) | (first | refine Zw hc (hf := by first | exact h1 | exact h2 | exact h3 | exact awake5_ok) (hk := ?_) | refine Zq hc (hf := by first | exact h1 | exact h2 | exact h3 | exact awake5_ok) (hk := ?_) | refine Zo hc (hk := ?_) | refine Zu hc (hk := ?_) | refine Ze hc (hk := ?_) | refine Zn hc (hk := ?_) | fail))
    all_goals try contradiction
    all_goals try (exfalso; omega)
    all_goals (refine Zl hc (hr := ?_))
    all_goals simp
  · obtain ⟨i, _, hl, ho, hm, hv⟩ : ∃ i, 0 ≤ i ∧ i < f.items.length ∧ opnP f (wntAt f.items i) = true ∧ waitN f t (wntAt f.items i) ≤ 253402300799 ∧ n = waitN f t (wntAt f.items i) := by
      rcases hex with ⟨h, _⟩ | h
      · omega
      · exact h
    have htn : t ≤ n := by rw [hv]; exact hge _
    have hmn : okM n := ⟨hn0, by omega⟩
    have hyes : 0 ≤ nextGo f.items (rdyP f n) 0 (-1) := nextGo_yes f.items _ 0 (-1) i (Nat.zero_le _) hl ((rdy_iff f t n _ htn).2 ⟨ho, by omega⟩)
    have h4 := hF n hf
    have e4 : nextC f n = (max (nextGo f.items (rdyP f n) 0 (-1)) 0, true, 0) := by
      unfold nextC
      rw [if_neg (fun e => e (hat n hmn)), decide_eq_true hyes]
    rw [e4] at h4
    generalize max (nextGo f.items (rdyP f n) 0 (-1)) 0 = mx at h4
    have ht1 := ht.1
    have ht2 := ht.2
    have hm2 := hmn.2
    by_cases htn2 : n ≤ t
    · obtain rfl : n = t := by omega
      clear hF hno hat hle hex hnn hge
      repeat' (first | (first | refine Ya ?_ | refine Yb ?_ | refine Yc ?_ | refine Yd ?_ | refine Ye ?_ | refine Yf ?_ | refine Yg ?_ | refine Yh ?_ | refine Yi ?_ | refine Yj ?_ | refine Yk ?_ | refine Yl ?_ | refine Ym ?_ | refine Yn ?_ | refine Yo ?_ | refine Yp (h := ?_) | refine Yq ?_ | refine Yr ?_ | refine Ys ?_ | refine Zr hc (hk := ?_) | refine Zd hc (hk := ?_) | (refine Zc (ht := fun hb => ?_) (hf := fun hb => ?_) <;> (try simp at hb)) | fail) | (first | refine Zw hc (hf := by first | exact h1 | exact h4 | exact awake5_ok) (hk := ?_) | refine Zq hc (hf := by first | exact h1 | exact h4 | exact awake5_ok) (hk := ?_) | refine Zo hc (hk := ?_) | refine Zu hc (hk := ?_) | refine Ze hc (hk := ?_) | refine Zn hc (hk := ?_) | fail))
      all_goals try contradiction
      all_goals try (exfalso; omega)
      all_goals (refine Zl hc (hr := ?_))
      all_goals simp
    · have hb := below_range p (n - t) (by omega)
      have h2 := below_ok p (n - t) hp (by omega) (by omega)
      have h3 := hF (t + belowP p (n - t)) hf
      rw [hno _ (by omega) ⟨by omega, by omega⟩ (fun i hl hi => by
        have := hle i (Nat.zero_le _) hl hi.1 (by omega)
        omega)] at h3
      generalize belowP p (n - t) = q at hb h2 h3
      clear hF hno hat hle hex hnn hge
      repeat' (first | (first | refine Ya ?_ | refine Yb ?_ | refine Yc ?_ | refine Yd ?_ | refine Ye ?_ | refine Yf ?_ | refine Yg ?_ | refine Yh ?_ | refine Yi ?_ | refine Yj ?_ | refine Yk ?_ | refine Yl ?_ | refine Ym ?_ | refine Yn ?_ | refine Yo ?_ | refine Yp (h := ?_) | refine Yq ?_ | refine Yr ?_ | refine Ys ?_ | refine Zr hc (hk := ?_) | refine Zd hc (hk := ?_) | (refine Zc (ht := fun hb => ?_) (hf := fun hb => ?_) <;> (try simp at hb)) | fail) | (first | refine Zw hc (hf := by first | exact h1 | exact h4 | exact h2 | exact h3 | exact awake5_ok) (hk := ?_) | refine Zq hc (hf := by first | exact h1 | exact h4 | exact h2 | exact h3 | exact awake5_ok) (hk := ?_) | refine Zo hc (hk := ?_) | refine Zu hc (hk := ?_) | refine Ze hc (hk := ?_) | refine Zn hc (hk := ?_) | fail))
      all_goals try contradiction
      all_goals try (exfalso; omega)
      all_goals (refine Zl hc (hr := ?_))
      all_goals simp
end Go.Proofs.YtnainpghpjelcaaGreatDoor
