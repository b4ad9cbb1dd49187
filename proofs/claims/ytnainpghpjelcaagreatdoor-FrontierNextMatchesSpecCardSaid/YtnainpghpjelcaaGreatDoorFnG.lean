/-
  CHAPTER 5's REFERENCE: Next, Wait, Spent; FrontierNextMatchesSpec's own walk. (WITH run_drawN.)
-/
import Derived.Test.YtnainpghpjelcaaGreatDoorFnE
import Derived.Test.YtnainpghpjelcaaGreatDoorFnL
set_option linter.unusedSimpArgs false
set_option linter.unusedVariables false
namespace Go.Proofs.YtnainpghpjelcaaGreatDoor
open Go.Lw Go.RowKit
set_option maxRecDepth 100000
set_option maxHeartbeats 2000000

theorem qAskAt_ok (f : Frt) (t : Int) (hf : FrOk f) : FnOk Tryz.prog 84 [frD f, int t] (int (atE f t)) := by
  refine fnOk Tryz.func84 rfl (by kernel_rfl) Tryz.ntmps84 _ rfl (by simp) fun C hc => ?_
  have h1 := qCheckFr_ok f hf
  have h2 := qFrWithin_ok t 0 253402300799
  unfold atE
  have e : decide (okM t) = decide (0 ≤ t ∧ t ≤ 253402300799) := rfl
  rw [e]
  clear e
  generalize frE f = e at h1 ⊢
  generalize decide (0 ≤ t ∧ t ≤ 253402300799) = w at h2 ⊢
  repeat' (first | (first | refine Ya ?_ | refine Yb ?_ | refine Yc ?_ | refine Yd ?_ | refine Ye ?_ | refine Yf ?_ | refine Yg ?_ | refine Yh ?_ | refine Yi ?_ | refine Yj ?_ | refine Yk ?_ | refine Yl ?_ | refine Ym ?_ | refine Yn ?_ | refine Yo ?_ | refine Yp (h := ?_) | refine Yq ?_ | refine Yr ?_ | refine Ys ?_ | refine Zr hc (hk := ?_) | refine Zd hc (hk := ?_) | (refine Zc (ht := fun hb => ?_) (hf := fun hb => ?_) <;> (try simp at hb)) | fail) | (first | refine Zw hc (hf := by first | exact h1 | exact h2) (hk := ?_) | refine Zq hc (hf := by first | exact h1 | exact h2) (hk := ?_) | refine Zo hc (hk := ?_) | refine Zu hc (hk := ?_) | refine Ze hc (hk := ?_) | refine Zn hc (hk := ?_) | fail))
  · rw [if_pos hb]
    (refine Zl hc (hr := ?_))
    simp
  · rename_i g
    rw [if_neg (fun h => h g), if_pos hb]
    (refine Zl hc (hr := ?_))
    simp
  · rename_i g
    rw [if_neg (fun h => h g), if_neg (by simp [hb])]
    (refine Zl hc (hr := ?_))
    simp
/-! The plain law: starts in order. -/
def ascI (l : List Int) : Prop := ∀ k, 0 < k → k < l.length → l[k - 1]?.getD 0 ≤ l[k]?.getD 0
theorem ascI_le {l : List Int} (h : ascI l) {i j : Nat} (hij : i ≤ j) (hj : j < l.length) : l[i]?.getD 0 ≤ l[j]?.getD 0 := by
  induction j with
  | zero => obtain rfl : i = 0 := by omega
            omega
  | succ j ih =>
    rcases Nat.lt_or_ge j i with h1 | h1
    · obtain rfl : i = j + 1 := by omega
      omega
    · have := ih h1 (by omega)
      have h2 := h (j + 1) (by omega) hj
      rw [Nat.add_sub_cancel] at h2
      omega
theorem sinceGo_mono (l : List Int) (m : Int) (j k : Nat) (hjk : j ≤ k) : sinceGo l m k ≤ sinceGo l m j := by
  rcases Nat.lt_or_ge j k with h | h
  · rw [sinceGo.eq_def l m j]
    split
    · have := sinceGo_mono l m (j + 1) k (by omega)
      omega
    · have := sinceGo_le l m k
      omega
  · obtain rfl : j = k := by omega
    omega
termination_by k - j
theorem sinceGo_full (l : List Int) (m : Int) (j : Nat) (h : ∀ i, j ≤ i → i < l.length → m < l[i]?.getD 0) : sinceGo l m j = l.length - j := by
  rw [sinceGo]
  split
  · rename_i hj
    rw [if_pos (h j (Nat.le_refl _) hj), sinceGo_full l m (j + 1) fun i hi hl => h i (by omega) hl]
    omega
  · omega
termination_by l.length - j
theorem sinceGo_skip (l : List Int) (m : Int) (j k : Nat) (hk : k ≤ l.length) (hjk : j ≤ k) (h : ∀ i, j ≤ i → i < k → ¬ m < l[i]?.getD 0) : sinceGo l m j = sinceGo l m k := by
  rcases Nat.lt_or_ge j k with h1 | h1
  · rw [sinceGo.eq_def l m j, if_pos (by omega), if_neg (h j (Nat.le_refl _) h1), sinceGo_skip l m (j + 1) k hk (by omega) fun i hi hl => h i (by omega) hl]
    omega
  · obtain rfl : j = k := by omega
    rfl
termination_by k - j
/-- So many starts are behind a moment just where one is. -/
theorem since_iff {l : List Int} (ha : ascI l) (m : Int) (b : Nat) (hb : 1 ≤ b) : b ≤ sinceGo l m 0 ↔ (b ≤ l.length ∧ m < l[l.length - b]?.getD 0) := by
  constructor
  · intro h
    have h1 := sinceGo_le l m 0
    refine ⟨by omega, Classical.byContradiction fun hn => ?_⟩
    have := sinceGo_skip l m 0 (l.length - b + 1) (by omega) (by omega) fun i _ hi hm => hn (Int.lt_of_lt_of_le hm (ascI_le ha (by omega) (by omega)))
    have h2 := sinceGo_le l m (l.length - b + 1)
    omega
  · rintro ⟨h1, h2⟩
    have h3 := sinceGo_full l m (l.length - b) fun i hi hl => Int.lt_of_lt_of_le h2 (ascI_le ha hi hl)
    have h4 := sinceGo_mono l m 0 (l.length - b) (Nat.zero_le _)
    omega
theorem good_asc {f : Frt} (hg : FrGood f) (j : Nat) (hj : j < f.hosts.length) : ascI (hstAt f.hosts j).2.2.2 := fun k h0 hk => (hg.starts j hj k hk).2 h0
theorem there_lt {K : Nat → Bs} {n : Nat} {s : Bs} (h : thereB K n s = true) : lbB K n s < n := by
  unfold thereB at h
  simp at h
  exact h.1
theorem rdy_same (f : Frt) (t : Int) (hg : FrGood f) (ht : okM t) : rdyQ f t = rdyP f t := by
  funext x
  unfold rdyQ rdyP opensP hostFor isOpenQ
  obtain ⟨b1, b2⟩ := hg.budget
  cases hth : thereB (nameAt f.hosts) f.hosts.length (hostK x.1)
  · rw [if_neg (by decide), if_pos rfl]
    have e : sinceGo [] (t - f.window) 0 = 0 := by rw [sinceGo, if_neg (by simp)]
    have e2 : decide ((0 : Int) ≤ t) = true := decide_eq_true ht.1
    have e3 : decide (((0 : Nat) : Int) < f.budget) = true := decide_eq_true (by omega)
    simp [e, e2]
    intro
    omega
  · rw [if_pos rfl, if_neg (by decide)]
    have hlt := there_lt hth
    have ha := good_asc hg _ hlt
    generalize hstAt f.hosts (lbB (nameAt f.hosts) f.hosts.length (hostK x.1)) = h at ha
    obtain ⟨nm, fr, bz, l⟩ := h
    simp only at ha ⊢
    cases bz
    · rw [if_neg (by decide)]
      have hsi := since_iff ha (t - f.window) f.budget.toNat (by omega)
      have hbn : ((f.budget.toNat : Nat) : Int) = f.budget := Int.toNat_of_nonneg (by omega)
      generalize f.budget.toNat = bn at hsi hbn ⊢
      rw [← hbn]
      simp only [Bool.not_false, Bool.true_and, Bool.and_true]
      rw [Bool.eq_iff_iff]
      simp only [Bool.and_eq_true, decide_eq_true_eq]
      by_cases hle : (bn : Int) ≤ (l.length : Int)
      · rw [if_pos hle]
        constructor
        · rintro ⟨h1, h2, h3⟩
          have : ¬ bn ≤ sinceGo l (t - f.window) 0 := by omega
          have h4 : ¬ (t - f.window < l[l.length - bn]?.getD 0) := fun e => this (hsi.2 ⟨by omega, e⟩)
          exact ⟨h1, by omega⟩
        · rintro ⟨h1, h2⟩
          have : ¬ bn ≤ sinceGo l (t - f.window) 0 := fun e => by
            have := (hsi.1 e).2
            omega
          exact ⟨h1, by omega, by omega⟩
      · rw [if_neg hle]
        constructor
        · rintro ⟨h1, h2, h3⟩
          exact ⟨h1, h2⟩
        · rintro ⟨h1, h2⟩
          have : ¬ bn ≤ sinceGo l (t - f.window) 0 := fun e => by
            have := (hsi.1 e).1
            omega
          exact ⟨h1, h2, by omega⟩
    · rw [if_pos rfl]
      simp
theorem qNextF_ok (f : Frt) (t : Int) (hf : FrOk f) : FnOk Tryz.prog 33 [frD f, int t] (.tup [int (nextC f t).1, tru (nextC f t).2.1, int (nextC f t).2.2]) := by
  refine fnOk Tryz.func33 rfl (by kernel_rfl) Tryz.ntmps33 _ rfl (by simp) fun C hc => ?_
  have h1 := qAskAt_ok f t hf
  unfold nextC
  by_cases h0 : atE f t = 0
  · rw [if_neg (fun e => e h0)]
    rw [h0] at h1
    obtain ⟨hg, ht⟩ := atE_good h0
    have h2 := qNext_ok f t hg ht
    rw [rdy_same f t hg ht] at h2
    generalize nextGo f.items (rdyP f t) 0 (-1) = n at h2 ⊢
    repeat' (first | (first | refine Ya ?_ | refine Yb ?_ | refine Yc ?_ | refine Yd ?_ | refine Ye ?_ | refine Yf ?_ | refine Yg ?_ | refine Yh ?_ | refine Yi ?_ | refine Yj ?_ | refine Yk ?_ | refine Yl ?_ | refine Ym ?_ | refine Yn ?_ | refine Yo ?_ | refine Yp (h := ?_) | refine Yq ?_ | refine Yr ?_ | refine Ys ?_ | refine Zr hc (hk := ?_) | refine Zd hc (hk := ?_) | (refine Zc (ht := fun hb => ?_) (hf := fun hb => ?_) <;> (try simp at hb)) | fail) | (first | refine Zw hc (hf := by first | exact h1 | exact h2) (hk := ?_) | refine Zq hc (hf := by first | exact h1 | exact h2) (hk := ?_) | refine Zo hc (hk := ?_) | refine Zu hc (hk := ?_) | refine Ze hc (hk := ?_) | refine Zn hc (hk := ?_) | fail))
    all_goals try contradiction
    (refine Zl hc (hr := ?_))
    simp
    rw [Int.max_def]
    split <;> split <;> omega
  · rw [if_pos h0]
    generalize atE f t = e at h0 h1 ⊢
    repeat' (first | (first | refine Ya ?_ | refine Yb ?_ | refine Yc ?_ | refine Yd ?_ | refine Ye ?_ | refine Yf ?_ | refine Yg ?_ | refine Yh ?_ | refine Yi ?_ | refine Yj ?_ | refine Yk ?_ | refine Yl ?_ | refine Ym ?_ | refine Yn ?_ | refine Yo ?_ | refine Yp (h := ?_) | refine Yq ?_ | refine Yr ?_ | refine Ys ?_ | refine Zr hc (hk := ?_) | refine Zd hc (hk := ?_) | (refine Zc (ht := fun hb => ?_) (hf := fun hb => ?_) <;> (try simp at hb)) | fail) | (first | refine Zw hc (hf := by exact h1) (hk := ?_) | refine Zq hc (hf := by exact h1) (hk := ?_) | refine Zo hc (hk := ?_) | refine Zu hc (hk := ?_) | refine Ze hc (hk := ?_) | refine Zn hc (hk := ?_) | fail))
    all_goals try contradiction
    (refine Zl hc (hr := ?_))
    simp
/-- When an item can be fetched, or -1. -/
def opensQ (f : Frt) (x : Wnt) (t : Int) : Int :=
  if (hostFor f x.1).2.2.1 = true then -1
  else if f.budget ≤ (sinceGo (hostFor f x.1).2.2.2 (max t (max x.2.2 (hostFor f x.1).2.1) - f.window) 0 : Int) then (hostFor f x.1).2.2.2[(hostFor f x.1).2.2.2.length - f.budget.toNat]?.getD 0 + f.window
  else max t (max x.2.2 (hostFor f x.1).2.1)
theorem hostFor_free (f : Frt) (k : Bs) (hg : FrGood f) : 0 ≤ (hostFor f k).2.1 ∧ (hostFor f k).2.1 ≤ 253502300799 := by
  unfold hostFor
  split
  · rename_i h
    exact hg.free _ (there_lt h)
  · simp
theorem hostFor_asc (f : Frt) (k : Bs) (hg : FrGood f) : ascI (hostFor f k).2.2.2 ∧ ∀ i, i < (hostFor f k).2.2.2.length → okM ((hostFor f k).2.2.2[i]?.getD 0) := by
  unfold hostFor
  split
  · rename_i h
    exact ⟨good_asc hg _ (there_lt h), fun i hi => (hg.starts _ (there_lt h) i hi).1⟩
  · exact ⟨fun i _ h => by simp at h, fun i h => by simp at h⟩
theorem qOpens_ok (f : Frt) (x : Wnt) (t : Int) (hg : FrGood f) (ht : okM t) (hx : wntE x = 0) : FnOk Tryz.prog 86 [frD f, wntD x, int t] (int (opensQ f x t)) := by
  refine fnOk Tryz.func86 rfl (by kernel_rfl) Tryz.ntmps86 _ rfl (by simp) fun C hc => ?_
  obtain ⟨k1, k2, k3⟩ := wnt_key hx
  have h1 := qHostFor_ok f x.1 hg k1
  have h2 := qSince_ok (hostFor f x.1) (max t (max x.2.2 (hostFor f x.1).2.1) - f.window) (hostFor_small f _ hg)
  have hfr := hostFor_free f x.1 hg
  have hsm := hostFor_small f x.1 hg
  obtain ⟨hasc, hok⟩ := hostFor_asc f x.1 hg
  obtain ⟨b1, b2⟩ := hg.budget
  obtain ⟨w1, w2⟩ := hg.window
  obtain ⟨t1, t2⟩ := ht
  have hd1 := k3.1
  have hd2 := k3.2
  have hsi := since_iff hasc (max t (max x.2.2 (hostFor f x.1).2.1) - f.window) f.budget.toNat (by omega)
  unfold opensQ
  generalize hostFor f x.1 = h at h1 h2 hfr hsm hasc hok hsi ⊢
  obtain ⟨nm, fr, bz, l⟩ := h
  simp only at h2 hfr hsm hasc hok hsi ⊢
  generalize sinceGo l (max t (max x.2.2 fr) - f.window) 0 = sn at h2 hsi ⊢
  obtain ⟨I, H, bu, wi⟩ := f
  simp only at *
  have hbn : ((bu.toNat : Nat) : Int) = bu := Int.toNat_of_nonneg (by omega)
  generalize bu.toNat = bn at hsi hbn ⊢
  subst hbn
  have hlen : ∀ y : Int, (y = (sn : Int)) → (bn : Int) ≤ y → bn ≤ l.length := fun y e h => (hsi.1 (by omega)).1
  have hix := hok (l.length - bn)
  repeat' (first | (first | refine Ya ?_ | refine Yb ?_ | refine Yc ?_ | refine Yd ?_ | refine Ye ?_ | refine Yf ?_ | refine Yg ?_ | refine Yh ?_ | refine Yi ?_ | refine Yj ?_ | refine Yk ?_ | refine Yl ?_ | refine Ym ?_ | refine Yn ?_ | refine Yo ?_ | refine Yp (h := ?_) | refine Yq ?_ | refine Yr ?_ | refine Ys ?_ | refine Zr hc (hk := ?_) | refine Zd hc (hk := ?_) | (refine Zc (ht := fun hb => ?_) (hf := fun hb => ?_) <;> (try simp at hb)) | fail) | (first | refine Zw hc (hf := by first | exact h1 | exact h2) (hk := ?_) | refine Zq hc (hf := by first | exact h1 | exact h2) (hk := ?_) | refine Zo hc (hk := ?_) | refine Zu hc (hk := ?_) | refine Ze hc (hk := ?_) | refine Zn hc (hk := ?_) | fail) | refine run_max3 hc (by simp; exact Gives.mk) (by simp; exact Gives.mk) (by simp; exact Gives.mk) (by simp; exact Gives.mk) (by simp) ?_)
  all_goals try contradiction
  all_goals try (exfalso; omega)
  · rw [if_pos hb]
    (refine Zl hc (hr := ?_))
    simp
  · rename_i g
    rw [if_neg (by simp [g]), if_pos (by omega)]
    (refine Zl hc (hr := ?_))
    simp
  · rename_i g
    rw [if_neg (by simp [g]), if_neg (by omega)]
    (refine Zl hc (hr := ?_))
    simp
theorem opens_same (f : Frt) (t : Int) (x : Wnt) (hg : FrGood f) : opensQ f x t = if opnP f x = true then waitN f t x else -1 := by
  unfold opensQ opnP waitN opensP hostFor
  obtain ⟨b1, b2⟩ := hg.budget
  cases hth : thereB (nameAt f.hosts) f.hosts.length (hostK x.1)
  · have e : sinceGo [] (max t (max x.2.2 0) - f.window) 0 = 0 := by rw [sinceGo, if_neg (by simp)]
    simp only [Bool.false_eq_true, if_false, if_true, e]
    rw [if_neg (by omega)]
  · have ha := good_asc hg _ (there_lt hth)
    generalize hstAt f.hosts (lbB (nameAt f.hosts) f.hosts.length (hostK x.1)) = h at ha
    obtain ⟨nm, fr, bz, l⟩ := h
    simp only at ha ⊢
    cases bz
    · have hsi := since_iff ha (max t (max x.2.2 fr) - f.window) f.budget.toNat (by omega)
      have hbn : ((f.budget.toNat : Nat) : Int) = f.budget := Int.toNat_of_nonneg (by omega)
      simp only [Bool.false_eq_true, if_false, if_true, reduceCtorEq]
      generalize f.budget.toNat = bn at hsi hbn ⊢
      rw [← hbn]
      generalize sinceGo l (max t (max x.2.2 fr) - f.window) 0 = sn at hsi ⊢
      generalize l[l.length - bn]?.getD 0 = y at hsi ⊢
      by_cases h1 : bn ≤ l.length
      · rw [if_pos (by omega : (bn : Int) ≤ (l.length : Int))]
        by_cases h2 : bn ≤ sn
        · have := (hsi.1 h2).2
          rw [if_pos (by omega)]
          omega
        · have : ¬ (max t (max x.2.2 fr) - f.window < y) := fun e => h2 (hsi.2 ⟨h1, e⟩)
          rw [if_neg (by omega)]
          omega
      · rw [if_neg (by omega : ¬ (bn : Int) ≤ (l.length : Int)), if_neg (fun e => h1 (hsi.1 (by omega)).1)]
    · simp
theorem qWait_ok (f : Frt) (t : Int) (hf : FrOk f) : FnOk Tryz.prog 34 [frD f, int t] (.tup [int (waitC f t).1, int (waitC f t).2]) := by
  refine fnOk Tryz.func34 rfl (by kernel_rfl) Tryz.ntmps34 _ rfl (by simp) fun C hc => ?_
  have h1 := qAskAt_ok f t hf
  unfold waitC
  by_cases h0 : atE f t = 0
  rotate_left
  · rw [if_pos h0]
    generalize atE f t = e at h0 h1 ⊢
    repeat' (first | (first | refine Ya ?_ | refine Yb ?_ | refine Yc ?_ | refine Yd ?_ | refine Ye ?_ | refine Yf ?_ | refine Yg ?_ | refine Yh ?_ | refine Yi ?_ | refine Yj ?_ | refine Yk ?_ | refine Yl ?_ | refine Ym ?_ | refine Yn ?_ | refine Yo ?_ | refine Yp (h := ?_) | refine Yq ?_ | refine Yr ?_ | refine Ys ?_ | refine Zr hc (hk := ?_) | refine Zd hc (hk := ?_) | (refine Zc (ht := fun hb => ?_) (hf := fun hb => ?_) <;> (try simp at hb)) | fail) | (first | refine Zw hc (hf := by exact h1) (hk := ?_) | refine Zq hc (hf := by exact h1) (hk := ?_) | refine Zo hc (hk := ?_) | refine Zu hc (hk := ?_) | refine Ze hc (hk := ?_) | refine Zn hc (hk := ?_) | fail))
    all_goals try contradiction
    (refine Zl hc (hr := ?_))
    simp
  rw [if_neg (fun e => e h0)]
  rw [h0] at h1
  obtain ⟨hg, ht⟩ := atE_good h0
  have hil := hg.items
  repeat' (first | (first | refine Ya ?_ | refine Yb ?_ | refine Yc ?_ | refine Yd ?_ | refine Ye ?_ | refine Yf ?_ | refine Yg ?_ | refine Yh ?_ | refine Yi ?_ | refine Yj ?_ | refine Yk ?_ | refine Yl ?_ | refine Ym ?_ | refine Yn ?_ | refine Yo ?_ | refine Yp (h := ?_) | refine Yq ?_ | refine Yr ?_ | refine Ys ?_ | refine Zr hc (hk := ?_) | refine Zd hc (hk := ?_) | (refine Zc (ht := fun hb => ?_) (hf := fun hb => ?_) <;> (try simp at hb)) | fail) | (first | refine Zw hc (hf := by exact h1) (hk := ?_) | refine Zq hc (hf := by exact h1) (hk := ?_) | refine Zo hc (hk := ?_) | refine Zu hc (hk := ?_) | refine Ze hc (hk := ?_) | refine Zn hc (hk := ?_) | fail))
  all_goals try contradiction
  clear h1
  refine ewp_loop (fun x : Nat × Int => ⟨[(1, .d (int t)), (2, .bp 2 0), (7, .d (int x.2)), (18, .d (wntSl f.items)), (19, .d (int f.items.length)), (20, .d (int x.1))], [(2, .box 25 [.d (wntSl f.items), .d (hstSl f.hosts), .d (int f.budget), .d (int f.window)])]⟩)
    (fun x => x.1 ≤ f.items.length ∧ waitGo f.items (waitN f t) (opnP f) 0 (-1) = waitGo f.items (waitN f t) (opnP f) x.1 x.2) (fun x => f.items.length - x.1) (0, -1) (by simp) (run_keep [1, 2, 7, 18, 19, 20] [2] (by simp; exact Gives.mk) (by simp; exact Gives.mk)) ?_
  rintro ⟨j, b⟩ ⟨hj, hA⟩
  simp only at hj hA ⊢
  by_cases hlt : j < f.items.length
  rotate_left
  · rw [waitGo.eq_def f.items (waitN f t) (opnP f) j b, if_neg hlt] at hA
    repeat' (first | (first | refine Ya ?_ | refine Yb ?_ | refine Yc ?_ | refine Yd ?_ | refine Ye ?_ | refine Yf ?_ | refine Yg ?_ | refine Yh ?_ | refine Yi ?_ | refine Yj ?_ | refine Yk ?_ | refine Yl ?_ | refine Ym ?_ | refine Yn ?_ | refine Yo ?_ | refine Yp (h := ?_) | refine Yq ?_ | refine Yr ?_ | refine Ys ?_ | refine Zr hc (hk := ?_) | refine Zd hc (hk := ?_) | (refine Zc (ht := fun hb => ?_) (hf := fun hb => ?_) <;> (try simp at hb)) | fail) | (first | refine Zo hc (hk := ?_) | refine Zu hc (hk := ?_) | refine Ze hc (hk := ?_) | refine Zn hc (hk := ?_) | fail))
    all_goals try (exfalso; omega)
    rw [hA]
    (refine Zl hc (hr := ?_))
    simp
  rw [waitGo.eq_def f.items (waitN f t) (opnP f) j b, if_pos hlt] at hA
  have h1 := qOpens_ok f (wntAt f.items j) t hg ht (hg.wnt j hlt)
  rw [opens_same f t _ hg] at h1
  have hnn : 0 ≤ waitN f t (wntAt f.items j) := by unfold waitN; have := ht.1; omega
  generalize waitN f t (wntAt f.items j) = n at h1 hA hnn
  generalize opnP f (wntAt f.items j) = o at h1 hA
  cases o
  · rw [if_neg (by decide)] at h1
    rw [if_neg (fun h => by cases h.1)] at hA
    repeat' (first | (first | refine Ya ?_ | refine Yb ?_ | refine Yc ?_ | refine Yd ?_ | refine Ye ?_ | refine Yf ?_ | refine Yg ?_ | refine Yh ?_ | refine Yi ?_ | refine Yj ?_ | refine Yk ?_ | refine Yl ?_ | refine Ym ?_ | refine Yn ?_ | refine Yo ?_ | refine Yp (h := ?_) | refine Yq ?_ | refine Yr ?_ | refine Ys ?_ | refine Zr hc (hk := ?_) | refine Zd hc (hk := ?_) | (refine Zc (ht := fun hb => ?_) (hf := fun hb => ?_) <;> (try simp at hb)) | fail) | (first | refine Zw hc (hf := by exact h1) (hk := ?_) | refine Zq hc (hf := by exact h1) (hk := ?_) | refine Zo hc (hk := ?_) | refine Zu hc (hk := ?_) | refine Ze hc (hk := ?_) | refine Zn hc (hk := ?_) | fail))
    all_goals try (exfalso; omega)
    exact ⟨(j + 1, b), ⟨by simp only; omega, hA⟩, by simp only; omega, run_back [1, 2, 7, 18, 19, 20] [2] (by simp; exact Gives.mk) (by simp; exact Gives.mk) (by simp)⟩
  · rw [if_pos rfl] at h1
    repeat' (first | (first | refine Ya ?_ | refine Yb ?_ | refine Yc ?_ | refine Yd ?_ | refine Ye ?_ | refine Yf ?_ | refine Yg ?_ | refine Yh ?_ | refine Yi ?_ | refine Yj ?_ | refine Yk ?_ | refine Yl ?_ | refine Ym ?_ | refine Yn ?_ | refine Yo ?_ | refine Yp (h := ?_) | refine Yq ?_ | refine Yr ?_ | refine Ys ?_ | refine Zr hc (hk := ?_) | refine Zd hc (hk := ?_) | (refine Zc (ht := fun hb => ?_) (hf := fun hb => ?_) <;> (try simp at hb)) | fail) | (first | refine Zw hc (hf := by exact h1) (hk := ?_) | refine Zq hc (hf := by exact h1) (hk := ?_) | refine Zo hc (hk := ?_) | refine Zu hc (hk := ?_) | refine Ze hc (hk := ?_) | refine Zn hc (hk := ?_) | fail))
    all_goals try (exfalso; omega)
    · rw [if_pos ⟨rfl, by omega, by omega⟩] at hA
      exact ⟨(j + 1, n), ⟨by simp only; omega, hA⟩, by simp only; omega, run_back [1, 2, 7, 18, 19, 20] [2] (by simp; exact Gives.mk) (by simp; exact Gives.mk) (by simp)⟩
    · rw [if_neg (fun h => by
        have := h.2.1
        have := h.2.2
        omega)] at hA
      exact ⟨(j + 1, b), ⟨by simp only; omega, hA⟩, by simp only; omega, run_back [1, 2, 7, 18, 19, 20] [2] (by simp; exact Gives.mk) (by simp; exact Gives.mk) (by simp)⟩
theorem since_both (l : List Int) (lo hi : Int) (h : lo ≤ hi) (j : Nat) : sinceGo l lo j = spentGo l lo hi j + sinceGo l hi j := by
  rw [sinceGo.eq_def l lo j, spentGo.eq_def l lo hi j, sinceGo.eq_def l hi j]
  split
  · have := since_both l lo hi h (j + 1)
    split <;> split <;> split <;> omega
  · rfl
termination_by l.length - j
theorem qSpent_ok (f : Frt) (s : Bs) (t : Int) (hf : FrOk f) : FnOk Tryz.prog 36 [frD f, str s, int t] (.tup [int (spentC f s t).1, int (spentC f s t).2]) := by
  refine fnOk Tryz.func36 rfl (by kernel_rfl) Tryz.ntmps36 _ rfl (by simp) fun C hc => ?_
  have h1 := qAskAt_ok f t hf
  unfold spentC
  by_cases h0 : atE f t = 0
  rotate_left
  · rw [if_pos h0]
    generalize atE f t = e at h0 h1 ⊢
    repeat' (first | (first | refine Ya ?_ | refine Yb ?_ | refine Yc ?_ | refine Yd ?_ | refine Ye ?_ | refine Yf ?_ | refine Yg ?_ | refine Yh ?_ | refine Yi ?_ | refine Yj ?_ | refine Yk ?_ | refine Yl ?_ | refine Ym ?_ | refine Yn ?_ | refine Yo ?_ | refine Yp (h := ?_) | refine Yq ?_ | refine Yr ?_ | refine Ys ?_ | refine Zr hc (hk := ?_) | refine Zd hc (hk := ?_) | (refine Zc (ht := fun hb => ?_) (hf := fun hb => ?_) <;> (try simp at hb)) | fail) | (first | refine Zw hc (hf := by exact h1) (hk := ?_) | refine Zq hc (hf := by exact h1) (hk := ?_) | refine Zo hc (hk := ?_) | refine Zu hc (hk := ?_) | refine Ze hc (hk := ?_) | refine Zn hc (hk := ?_) | fail))
    all_goals try contradiction
    (refine Zl hc (hr := ?_))
    simp
  rw [if_neg (fun e => e h0)]
  rw [h0] at h1
  obtain ⟨hg, ht⟩ := atE_good h0
  have h2 := qHostIdx_ok f s hg.hosts hg.names
  obtain ⟨w1, w2⟩ := hg.window
  have hcs := hIdx_cases f.hosts s
  have hno : hIdx f.hosts s = -1 → ¬ thereB (nameAt f.hosts) f.hosts.length s = true := fun e h => by
    unfold hIdx at e
    rw [if_pos h] at e
    omega
  generalize hIdx f.hosts s = n at h2 hcs hno
  obtain ⟨t1, t2⟩ := ht
  rcases hcs with rfl | ⟨j, rfl, hj, hjl, hth⟩
  · rw [if_pos (by simpa using hno rfl)]
    clear hno
    repeat' (first | (first | refine Ya ?_ | refine Yb ?_ | refine Yc ?_ | refine Yd ?_ | refine Ye ?_ | refine Yf ?_ | refine Yg ?_ | refine Yh ?_ | refine Yi ?_ | refine Yj ?_ | refine Yk ?_ | refine Yl ?_ | refine Ym ?_ | refine Yn ?_ | refine Yo ?_ | refine Yp (h := ?_) | refine Yq ?_ | refine Yr ?_ | refine Ys ?_ | refine Zr hc (hk := ?_) | refine Zd hc (hk := ?_) | (refine Zc (ht := fun hb => ?_) (hf := fun hb => ?_) <;> (try simp at hb)) | fail) | (first | refine Zw hc (hf := by first | exact h1 | exact h2) (hk := ?_) | refine Zq hc (hf := by first | exact h1 | exact h2) (hk := ?_) | refine Zo hc (hk := ?_) | refine Zu hc (hk := ?_) | refine Ze hc (hk := ?_) | refine Zn hc (hk := ?_) | fail))
    all_goals try contradiction
    all_goals try (exfalso; omega)
    (refine Zl hc (hr := ?_))
    simp
  · rw [if_neg (by rw [hth]; decide), ← hjl]
    clear hno hth hjl
    have hmn := hg.many j hj
    have h3 := qSince_ok (hstAt f.hosts j) (t - f.window) hmn
    have h4 := qSince_ok (hstAt f.hosts j) t hmn
    have hsb := since_both (hstAt f.hosts j).2.2.2 (t - f.window) t (by omega) 0
    have hle := sinceGo_le (hstAt f.hosts j).2.2.2 (t - f.window) 0
    generalize spentGo (hstAt f.hosts j).2.2.2 (t - f.window) t 0 = sp at hsb ⊢
    generalize sinceGo (hstAt f.hosts j).2.2.2 (t - f.window) 0 = n1 at h3 hsb hle
    generalize sinceGo (hstAt f.hosts j).2.2.2 t 0 = n2 at h4 hsb
    repeat' (first | (first | refine Ya ?_ | refine Yb ?_ | refine Yc ?_ | refine Yd ?_ | refine Ye ?_ | refine Yf ?_ | refine Yg ?_ | refine Yh ?_ | refine Yi ?_ | refine Yj ?_ | refine Yk ?_ | refine Yl ?_ | refine Ym ?_ | refine Yn ?_ | refine Yo ?_ | refine Yp (h := ?_) | refine Yq ?_ | refine Yr ?_ | refine Ys ?_ | refine Zr hc (hk := ?_) | refine Zd hc (hk := ?_) | (refine Zc (ht := fun hb => ?_) (hf := fun hb => ?_) <;> (try simp at hb)) | fail) | (first | refine Zw hc (hf := by first | exact h1 | exact h2 | exact h3 | exact h4) (hk := ?_) | refine Zq hc (hf := by first | exact h1 | exact h2 | exact h3 | exact h4) (hk := ?_) | refine Zo hc (hk := ?_) | refine Zu hc (hk := ?_) | refine Ze hc (hk := ?_) | refine Zn hc (hk := ?_) | fail))
    all_goals try contradiction
    all_goals try (exfalso; omega)
    (refine Zl hc (hr := ?_))
    simp
    omega
theorem nextSpec_ok (f : Frt) (t : Int) (s : Bs) (hf : FrOk f) : FnOk Tryz.prog 9 [frD f, int t, str s] (tru true) := by
  refine fnOk Tryz.func9 rfl (by kernel_rfl) Tryz.ntmps9 _ rfl (by simp) fun C hc => ?_
  have h1 := nextF_ok f t hf
  have h2 := qNextF_ok f t hf
  have h3 := wait_ok f t hf
  have h4 := qWait_ok f t hf
  have h5 := spent_ok f s t hf
  have h6 := qSpent_ok f s t hf
  generalize nextC f t = a at h1 h2
  generalize waitC f t = b at h3 h4
  generalize spentC f s t = c at h5 h6
  obtain ⟨a1, a2, a3⟩ := a
  obtain ⟨b1, b2⟩ := b
  obtain ⟨c1, c2⟩ := c
  simp only at h1 h2 h3 h4 h5 h6
  repeat' (first | (first | refine Ya ?_ | refine Yb ?_ | refine Yc ?_ | refine Yd ?_ | refine Ye ?_ | refine Yf ?_ | refine Yg ?_ | refine Yh ?_ | refine Yi ?_ | refine Yj ?_ | refine Yk ?_ | refine Yl ?_ | refine Ym ?_ | refine Yn ?_ | refine Yo ?_ | refine Yp (h := ?_) | refine Yq ?_ | refine Yr ?_ | refine Ys ?_ | refine Zr hc (hk := ?_) | refine Zd hc (hk := ?_) | (refine Zc (ht := fun hb => ?_) (hf := fun hb => ?_) <;> (try simp at hb)) | fail) | (first | refine Zw hc (hf := by first | exact h1 | exact h2 | exact h3 | exact h4 | exact h5 | exact h6 | exact awake5_ok) (hk := ?_) | refine Zq hc (hf := by first | exact h1 | exact h2 | exact h3 | exact h4 | exact h5 | exact h6 | exact awake5_ok) (hk := ?_) | refine Zo hc (hk := ?_) | refine Zu hc (hk := ?_) | refine Ze hc (hk := ?_) | refine Zn hc (hk := ?_) | fail))
  all_goals try contradiction
  all_goals try (exfalso; omega)
  all_goals (refine Zl hc (hr := ?_))
  all_goals simp
end Go.Proofs.YtnainpghpjelcaaGreatDoor
