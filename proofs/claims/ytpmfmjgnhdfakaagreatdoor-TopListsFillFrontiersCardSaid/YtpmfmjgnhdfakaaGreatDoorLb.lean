/-
  cmp.Compare, cmp.Or, strings.Compare. (WITH run_drawN.)
-/
import Derived.Test.YtpmfmjgnhdfakaaGreatDoorLibS
import Derived.Test.YtpmfmjgnhdfakaaGreatDoorLwPh
import Derived.Sort.Walk0
set_option linter.unusedSimpArgs false
set_option linter.unusedVariables false
namespace Go.Proofs.YtpmfmjgnhdfakaaGreatDoor
open Go.Lw Go.RowKit
set_option maxRecDepth 100000
set_option maxHeartbeats 1000000

theorem isNaN_ok (x : Int) : FnOk Tryz.prog 105 [int x] (tru false) := by
  refine fnOk Tryz.func105 rfl (by kernel_rfl) Tryz.ntmps105 _ rfl (by simp) fun C hc => ?_
  repeat' (first | (first | refine Ya ?_ | refine Yb ?_ | refine Yc ?_ | refine Yd ?_ | refine Ye ?_ | refine Yf ?_ | refine Yg ?_ | refine Yh ?_ | refine Yi ?_ | refine Yj ?_ | refine Yk ?_ | refine Yl ?_ | refine Ym ?_ | refine Yn ?_ | refine Yo ?_ | refine Yp (h := ?_) | refine Yq ?_ | refine Yr ?_ | refine Ys ?_ | refine Zr hc (hk := ?_) | refine Zd hc (hk := ?_) | (refine Zc (ht := fun hb => ?_) (hf := fun hb => ?_) <;> (try simp at hb)) | fail) | (first | refine Zo hc (hk := ?_) | refine Zu hc (hk := ?_) | refine Ze hc (hk := ?_) | refine Zn hc (hk := ?_) | fail))
  (refine Zl hc (hr := ?_))
  simp
theorem compare_ok (x y : Int) : FnOk Tryz.prog 56 [int x, int y] (int (Lib.compareInt x y)) := by
  refine fnOk Tryz.func56 rfl (by kernel_rfl) Tryz.ntmps56 _ rfl (by simp) fun C hc => ?_
  unfold Lib.compareInt
  have h1 := isNaN_ok x
  have h2 := isNaN_ok y
  repeat' (first | (first | refine Ya ?_ | refine Yb ?_ | refine Yc ?_ | refine Yd ?_ | refine Ye ?_ | refine Yf ?_ | refine Yg ?_ | refine Yh ?_ | refine Yi ?_ | refine Yj ?_ | refine Yk ?_ | refine Yl ?_ | refine Ym ?_ | refine Yn ?_ | refine Yo ?_ | refine Yp (h := ?_) | refine Yq ?_ | refine Yr ?_ | refine Ys ?_ | refine Zr hc (hk := ?_) | refine Zd hc (hk := ?_) | (refine Zc (ht := fun hb => ?_) (hf := fun hb => ?_) <;> (try simp at hb)) | fail) | (first | refine Zw hc (hf := by first | exact h1 | exact h2) (hk := ?_) | refine Zq hc (hf := by first | exact h1 | exact h2) (hk := ?_) | refine Zo hc (hk := ?_) | refine Zu hc (hk := ?_) | refine Ze hc (hk := ?_) | refine Zn hc (hk := ?_) | fail))
  all_goals try contradiction
  · rw [if_pos (by omega)]
    (refine Zl hc (hr := ?_))
    simp
  · rw [if_neg (by omega), if_pos (by omega)]
    (refine Zl hc (hr := ?_))
    simp
  · rw [if_neg (by omega), if_neg (by omega)]
    (refine Zl hc (hr := ?_))
    simp
theorem strCompare_ok (a b : Bs) : FnOk Tryz.prog 34 [str a, str b] (int (Lib.compareBytes a b)) :=
  fnOk_lits [.string (bs a), .string (bs b)] (by kernel_rfl) fun w _ => Tryz.strings_Compare (bs a) (bs b) w
/-- The first of two numbers that is not 0. -/
def or2 (x y : Int) : Int := if x ≠ 0 then x else y
def orL (l : List Int) (j : Nat) : Int := if j < l.length then (if l[j]?.getD 0 = 0 then orL l (j + 1) else l[j]?.getD 0) else 0
termination_by l.length - j
theorem orL_ok (l : List Int) (hl : l.length ≤ 1000) : FnOk Tryz.prog 55 [.sl l.length fun i => [int (l[i]?.getD 0)]] (int (orL l 0)) := by
  refine fnOk Tryz.func55 rfl (by kernel_rfl) Tryz.ntmps55 _ rfl (by simp) fun C hc => ?_
  repeat' (first | (first | refine Ya ?_ | refine Yb ?_ | refine Yc ?_ | refine Yd ?_ | refine Ye ?_ | refine Yf ?_ | refine Yg ?_ | refine Yh ?_ | refine Yi ?_ | refine Yj ?_ | refine Yk ?_ | refine Yl ?_ | refine Ym ?_ | refine Yn ?_ | refine Yo ?_ | refine Yp (h := ?_) | refine Yq ?_ | refine Yr ?_ | refine Ys ?_ | refine Zr hc (hk := ?_) | refine Zd hc (hk := ?_) | (refine Zc (ht := fun hb => ?_) (hf := fun hb => ?_) <;> (try simp at hb)) | fail) | (first | refine Zo hc (hk := ?_) | refine Zu hc (hk := ?_) | refine Ze hc (hk := ?_) | refine Zn hc (hk := ?_) | fail))
  refine ewp_loop (fun j : Nat => ⟨[(3, .d (int 0)), (6, .d (.sl l.length fun i => [int (l[i]?.getD 0)])), (7, .d (int l.length)), (8, .d (int j))], []⟩) (fun j => j ≤ l.length ∧ orL l 0 = orL l j) (fun j => l.length - j) 0 (by simp) (run_keep [3, 6, 7, 8] [] (by simp; exact Gives.mk) (by simp; exact Gives.mk)) ?_
  rintro j ⟨hj, hA⟩
  have hst : orL l j = if j < l.length then (if l[j]?.getD 0 = 0 then orL l (j + 1) else l[j]?.getD 0) else 0 := by rw [orL]
  repeat' (first | (first | refine Ya ?_ | refine Yb ?_ | refine Yc ?_ | refine Yd ?_ | refine Ye ?_ | refine Yf ?_ | refine Yg ?_ | refine Yh ?_ | refine Yi ?_ | refine Yj ?_ | refine Yk ?_ | refine Yl ?_ | refine Ym ?_ | refine Yn ?_ | refine Yo ?_ | refine Yp (h := ?_) | refine Yq ?_ | refine Yr ?_ | refine Ys ?_ | refine Zr hc (hk := ?_) | refine Zd hc (hk := ?_) | (refine Zc (ht := fun hb => ?_) (hf := fun hb => ?_) <;> (try simp at hb)) | fail) | (first | refine Zo hc (hk := ?_) | refine Zu hc (hk := ?_) | refine Ze hc (hk := ?_) | refine Zn hc (hk := ?_) | fail))
  · rw [hA, hst, if_pos (by assumption), if_neg hb]
    (refine Zl hc (hr := ?_))
    simp
  · exact ⟨j + 1, ⟨by omega, by rw [hA, hst, if_pos (by assumption), if_pos hb]⟩, by omega, run_back [3, 6, 7, 8] [] (by simp; exact Gives.mk) (by simp; exact Gives.mk) (by simp)⟩
  · rw [hA, hst, if_neg (by omega)]
    (refine Zl hc (hr := ?_))
    simp
theorem or_ok (x y : Int) : FnOk Tryz.prog 55 [.sl 2 fun i => [[int x], [int y]][i]?.getD [int 0]] (int (or2 x y)) := by
  have h := orL_ok [x, y] (by simp)
  have e : orL [x, y] 0 = or2 x y := by
    unfold or2
    rw [orL, orL, orL]
    simp
    by_cases hx : x = 0 <;> by_cases hy : y = 0 <;> simp [hx, hy]
  rw [e] at h
  refine FnOk.sim (.cons (.sl 2 _ _ fun i hi => ?_) .nil) h
  match i, hi with
  | 0, _ => rfl
  | 1, _ => rfl
theorem cmp_bad (a b : Bs) : 0 ≤ Lib.compareBytes a b ↔ Op.bytesLess b a = true ∨ b = a := by
  induction a generalizing b with
  | nil => cases b <;> simp [Lib.compareBytes, Op.bytesLess]
  | cons x a ih =>
    cases b with
    | nil => simp [Lib.compareBytes, Op.bytesLess]
    | cons y b =>
      rw [Lib.compareBytes, Op.bytesLess]
      rcases Nat.lt_trichotomy x.toNat y.toNat with h | h | h
      · have h1 : x < y := h
        have h2 : ¬ y < x := fun e => by have : y.toNat < x.toNat := e; omega
        have h3 : y ≠ x := fun e => by rw [e] at h; omega
        rw [if_pos h1]
        simp [h1, h2, h3]
      · have h0 : x = y := UInt8.toNat_inj.1 h
        subst h0
        have h1 : ¬ x < x := fun e => by have : x.toNat < x.toNat := e; omega
        rw [if_neg h1, if_neg h1]
        simp [h1, ih]
      · have h1 : y < x := h
        have h2 : ¬ x < y := fun e => by have : x.toNat < y.toNat := e; omega
        have h3 : y ≠ x := fun e => by rw [e] at h; omega
        rw [if_neg h2, if_pos h1]
        simp [h1, h2, h3]
theorem cmp_neg (a b : Bs) : Lib.compareBytes a b < 0 ↔ Op.bytesLess a b = true := by
  induction a generalizing b with
  | nil => cases b <;> simp [Lib.compareBytes, Op.bytesLess]
  | cons x a ih =>
    cases b with
    | nil => simp [Lib.compareBytes, Op.bytesLess]
    | cons y b =>
      rw [Lib.compareBytes, Op.bytesLess]
      rcases Nat.lt_trichotomy x.toNat y.toNat with h | h | h
      · have h1 : x < y := h
        rw [if_pos h1]
        simp [h1]
      · have h0 : x = y := UInt8.toNat_inj.1 h
        subst h0
        have h1 : ¬ x < x := fun e => by have : x.toNat < x.toNat := e; omega
        rw [if_neg h1, if_neg h1]
        simp [h1, ih]
      · have h1 : y < x := h
        have h2 : ¬ x < y := fun e => by have : x.toNat < y.toNat := e; omega
        have h3 : ¬ x = y := fun e => by rw [e] at h; omega
        rw [if_neg h2, if_pos h1]
        simp [h1, h2, h3]
theorem cmp_zero (a b : Bs) : Lib.compareBytes a b = 0 ↔ a = b := by
  induction a generalizing b with
  | nil => cases b <;> simp [Lib.compareBytes]
  | cons x a ih =>
    cases b with
    | nil => simp [Lib.compareBytes]
    | cons y b =>
      rw [Lib.compareBytes]
      rcases Nat.lt_trichotomy x.toNat y.toNat with h | h | h
      · have h1 : x < y := h
        have h3 : ¬ x = y := fun e => by rw [e] at h; omega
        rw [if_pos h1]
        simp [h3]
      · have h0 : x = y := UInt8.toNat_inj.1 h
        subst h0
        have h1 : ¬ x < x := fun e => by have : x.toNat < x.toNat := e; omega
        rw [if_neg h1, if_neg h1]
        simp [ih]
      · have h1 : y < x := h
        have h2 : ¬ x < y := fun e => by have : x.toNat < y.toNat := e; omega
        have h3 : ¬ x = y := fun e => by rw [e] at h; omega
        rw [if_neg h2, if_pos h1]
        simp [h3]
theorem bl_iff (x y : Bs) : Op.bytesLess x y = true ↔ x < y := by rw [Go.Proofs.bytesLess_eq]; simp
theorem bl_trans {a b c : Bs} (h1 : Op.bytesLess a b = true) (h2 : Op.bytesLess b c = true) : Op.bytesLess a c = true := (bl_iff _ _).2 (List.lt_trans ((bl_iff _ _).1 h1) ((bl_iff _ _).1 h2))
theorem bl_irrefl (a : Bs) : Op.bytesLess a a = false := by rw [Go.Proofs.bytesLess_eq]; simp
theorem bl_total {a b : Bs} (h1 : Op.bytesLess a b = false) (h2 : a ≠ b) : Op.bytesLess b a = true := by
  rw [bl_iff]
  rw [Go.Proofs.bytesLess_eq] at h1
  have h3 : ¬ a < b := by simpa using h1
  refine Classical.byContradiction fun h4 => h2 ?_
  exact List.le_antisymm h4 h3
end Go.Proofs.YtpmfmjgnhdfakaaGreatDoor
/-
  The lower bound of a string among strings that ascend. (WITH run_drawN.)
-/
set_option linter.unusedSimpArgs false
set_option linter.unusedVariables false
namespace Go.Proofs.YtpmfmjgnhdfakaaGreatDoor
open Go.Lw Go.RowKit
set_option maxRecDepth 100000
set_option maxHeartbeats 2000000

@[simp] theorem inR_u64 (n : Int) : inR .u64 n ↔ 0 ≤ n ∧ n ≤ 18446744073709551615 := by simp [inR, IntKind.min, IntKind.max, IntKind.signed, IntKind.bits]
theorem half_of {i j m : Nat} (h : (i + j) / 2 = m) : ((i : Int) + (j : Int)).fdiv (2 ^ min 1 IntKind.u64.bits) = (m : Int) := by
  have e : (2 : Int) ^ min 1 IntKind.u64.bits = 2 := by decide
  rw [e, Int.fdiv_eq_ediv_of_nonneg _ (by omega)]
  omega
/-- Each is behind the one ahead of it. -/
def ascB (K : Nat → Bs) (n : Nat) : Prop := ∀ i j, i < j → j < n → Op.bytesLess (K i) (K j) = true
abbrev leB (a b : Bs) : Prop := Op.bytesLess a b = true ∨ a = b
theorem ascB_of (K : Nat → Bs) (n : Nat) (h : ∀ j, 0 < j → j < n → ¬ leB (K j) (K (j - 1))) : ascB K n := by
  intro i j hij hj
  induction j with
  | zero => omega
  | succ j ih =>
    have h1 : Op.bytesLess (K j) (K (j + 1)) = true := by
      have := h (j + 1) (by omega) hj
      rw [Nat.add_sub_cancel] at this
      refine bl_total ?_ (fun e => this (.inr e))
      cases hb : Op.bytesLess (K (j + 1)) (K j) with
      | false => rfl
      | true => exact absurd (.inl hb) this
    rcases Nat.lt_or_ge i j with h2 | h2
    · exact bl_trans (ih h2 (by omega)) h1
    · obtain rfl : i = j := by omega
      exact h1
/-- The first place, from one on, that isn't ahead of a string. -/
def lbGo (K : Nat → Bs) (n : Nat) (s : Bs) (i : Nat) : Nat := if i < n ∧ Op.bytesLess (K i) s = true then lbGo K n s (i + 1) else i
termination_by n - i
theorem lbGo_spec (K : Nat → Bs) (n : Nat) (s : Bs) (i : Nat) (hi : i ≤ n) (h : ∀ j, j < i → Op.bytesLess (K j) s = true) : i ≤ lbGo K n s i ∧ lbGo K n s i ≤ n ∧ (∀ j, j < lbGo K n s i → Op.bytesLess (K j) s = true) ∧ (lbGo K n s i < n → Op.bytesLess (K (lbGo K n s i)) s = false) := by
  rw [lbGo]
  split
  · rename_i hc
    have := lbGo_spec K n s (i + 1) (by omega) (fun j hj => by
      rcases Nat.lt_or_ge j i with h1 | h1
      · exact h j h1
      · obtain rfl : j = i := by omega
        exact hc.2)
    exact ⟨by omega, this.2⟩
  · rename_i hc
    refine ⟨Nat.le_refl _, hi, h, fun hn => ?_⟩
    cases hb : Op.bytesLess (K i) s with
    | false => rfl
    | true => exact absurd ⟨hn, hb⟩ hc
termination_by n - i
/-- The lower bound. -/
def lbB (K : Nat → Bs) (n : Nat) (s : Bs) : Nat := lbGo K n s 0
theorem lbB_spec (K : Nat → Bs) (n : Nat) (s : Bs) : lbB K n s ≤ n ∧ (∀ j, j < lbB K n s → Op.bytesLess (K j) s = true) ∧ (lbB K n s < n → Op.bytesLess (K (lbB K n s)) s = false) :=
  (lbGo_spec K n s 0 (Nat.zero_le _) (fun _ h => by omega)).2
theorem lbB_of {K : Nat → Bs} {n : Nat} {s : Bs} {i : Nat} (hi : i ≤ n) (h1 : ∀ j, j < i → Op.bytesLess (K j) s = true) (h2 : i < n → Op.bytesLess (K i) s = false) : lbB K n s = i := by
  obtain ⟨k1, k2, k3⟩ := lbB_spec K n s
  rcases Nat.lt_trichotomy (lbB K n s) i with h | h | h
  · have := h1 _ h
    rw [k3 (by omega)] at this
    cases this
  · exact h
  · have := k2 _ h
    rw [h2 (by omega)] at this
    cases this
/-- Is a string there? -/
def thereB (K : Nat → Bs) (n : Nat) (s : Bs) : Bool := decide (lbB K n s < n) && decide (K (lbB K n s) = s)
end Go.Proofs.YtpmfmjgnhdfakaaGreatDoor
