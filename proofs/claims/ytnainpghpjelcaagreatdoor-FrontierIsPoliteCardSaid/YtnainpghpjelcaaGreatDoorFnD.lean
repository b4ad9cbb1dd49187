/-
  cmp.Compare, cmp.Or, strings.Compare. (WITH run_drawN.)
-/
import Derived.Test.YtnainpghpjelcaaGreatDoorLibS
import Derived.Test.YtnainpghpjelcaaGreatDoorLwFlt
import Derived.Sort.Walk0
import Derived.Test.YtnainpghpjelcaaGreatDoorFnA
set_option linter.unusedSimpArgs false
set_option linter.unusedVariables false
namespace Go.Proofs.YtnainpghpjelcaaGreatDoor
open Go.Lw Go.RowKit
set_option maxRecDepth 100000
set_option maxHeartbeats 1000000

theorem isNaN_ok (x : Int) : FnOk Tryz.prog 167 [int x] (tru false) := by
  refine fnOk Tryz.func167 rfl (by kernel_rfl) Tryz.ntmps167 _ rfl (by simp) fun C hc => ?_
  repeat' (first | (first | refine Ya ?_ | refine Yb ?_ | refine Yc ?_ | refine Yd ?_ | refine Ye ?_ | refine Yf ?_ | refine Yg ?_ | refine Yh ?_ | refine Yi ?_ | refine Yj ?_ | refine Yk ?_ | refine Yl ?_ | refine Ym ?_ | refine Yn ?_ | refine Yo ?_ | refine Yp (h := ?_) | refine Yq ?_ | refine Yr ?_ | refine Ys ?_ | refine Zr hc (hk := ?_) | refine Zd hc (hk := ?_) | (refine Zc (ht := fun hb => ?_) (hf := fun hb => ?_) <;> (try simp at hb)) | fail) | (first | refine Zo hc (hk := ?_) | refine Zu hc (hk := ?_) | refine Ze hc (hk := ?_) | refine Zn hc (hk := ?_) | fail))
  (refine Zl hc (hr := ?_))
  simp
theorem compare_ok (x y : Int) : FnOk Tryz.prog 120 [int x, int y] (int (Lib.compareInt x y)) := by
  refine fnOk Tryz.func120 rfl (by kernel_rfl) Tryz.ntmps120 _ rfl (by simp) fun C hc => ?_
  unfold Lib.compareInt
  have h1 := isNaN_ok x
  have h2 := isNaN_ok y
  repeat' (first | (first | refine Ya ?_ | refine Yb ?_ | refine Yc ?_ | refine Yd ?_ | refine Ye ?_ | refine Yf ?_ | refine Yg ?_ | refine Yh ?_ | refine Yi ?_ | refine Yj ?_ | refine Yk ?_ | refine Yl ?_ | refine Ym ?_ | refine Yn ?_ | refine Yo ?_ | refine Yp (h := ?_) | refine Yq ?_ | refine Yr ?_ | refine Ys ?_ | refine Zr hc (hk := ?_) | refine Zd hc (hk := ?_) | (refine Zc (ht := fun hb => ?_) (hf := fun hb => ?_) <;> (try simp at hb)) | fail) | (first | refine Zw hc (hf := by first | exact h1 | exact h2) (hk := ?_) | refine Zq hc (hf := by first | exact h1 | exact h2) (hk := ?_) | refine Zo hc (hk := ?_) | refine Zu hc (hk := ?_) | refine Ze hc (hk := ?_) | refine Zn hc (hk := ?_) | fail))
  all_goals try contradiction
  · rw [if_pos (by omega)]
    (refine Zl hc (hr := ?_))
    simp
  · rw [if_neg (by omega), if_pos (by omega)]
    (refine Zl hc (hr := ?_))
    simp
  · rw [if_neg (by omega), if_neg (by omega)]
    (refine Zl hc (hr := ?_))
    simp
theorem strCompare_ok (a b : Bs) : FnOk Tryz.prog 59 [str a, str b] (int (Lib.compareBytes a b)) :=
  fnOk_lits [.string (bs a), .string (bs b)] (by kernel_rfl) fun w _ => Tryz.strings_Compare (bs a) (bs b) w
/-- The first of two numbers that is not 0. -/
def or2 (x y : Int) : Int := if x ≠ 0 then x else y
def orL (l : List Int) (j : Nat) : Int := if j < l.length then (if l[j]?.getD 0 = 0 then orL l (j + 1) else l[j]?.getD 0) else 0
termination_by l.length - j
theorem orL_ok (l : List Int) (hl : l.length ≤ 1000) : FnOk Tryz.prog 119 [.sl l.length fun i => [int (l[i]?.getD 0)]] (int (orL l 0)) := by
  refine fnOk Tryz.func119 rfl (by kernel_rfl) Tryz.ntmps119 _ rfl (by simp) fun C hc => ?_
  repeat' (first | (first | refine Ya ?_ | refine Yb ?_ | refine Yc ?_ | refine Yd ?_ | refine Ye ?_ | refine Yf ?_ | refine Yg ?_ | refine Yh ?_ | refine Yi ?_ | refine Yj ?_ | refine Yk ?_ | refine Yl ?_ | refine Ym ?_ | refine Yn ?_ | refine Yo ?_ | refine Yp (h := ?_) | refine Yq ?_ | refine Yr ?_ | refine Ys ?_ | refine Zr hc (hk := ?_) | refine Zd hc (hk := ?_) | (refine Zc (ht := fun hb => ?_) (hf := fun hb => ?_) <;> (try simp at hb)) | fail) | (first | refine Zo hc (hk := ?_) | refine Zu hc (hk := ?_) | refine Ze hc (hk := ?_) | refine Zn hc (hk := ?_) | fail))
  refine ewp_loop (fun j : Nat => ⟨[(3, .d (int 0)), (6, .d (.sl l.length fun i => [int (l[i]?.getD 0)])), (7, .d (int l.length)), (8, .d (int j))], []⟩) (fun j => j ≤ l.length ∧ orL l 0 = orL l j) (fun j => l.length - j) 0 (by simp) (run_keep [3, 6, 7, 8] [] (by simp; exact Gives.mk) (by simp; exact Gives.mk)) ?_
  rintro j ⟨hj, hA⟩
  have hst : orL l j = if j < l.length then (if l[j]?.getD 0 = 0 then orL l (j + 1) else l[j]?.getD 0) else 0 := by rw [orL]
  repeat' (first | (first | refine Ya ?_ | refine Yb ?_ | refine Yc ?_ | refine Yd ?_ | refine Ye ?_ | refine Yf ?_ | refine Yg ?_ | refine Yh ?_ | refine Yi ?_ | refine Yj ?_ | refine Yk ?_ | refine Yl ?_ | refine Ym ?_ | refine Yn ?_ | refine Yo ?_ | refine Yp (h := ?_) | refine Yq ?_ | refine Yr ?_ | refine Ys ?_ | refine Zr hc (hk := ?_) | refine Zd hc (hk := ?_) | (refine Zc (ht := fun hb => ?_) (hf := fun hb => ?_) <;> (try simp at hb)) | fail) | (first | refine Zo hc (hk := ?_) | refine Zu hc (hk := ?_) | refine Ze hc (hk := ?_) | refine Zn hc (hk := ?_) | fail))
  · rw [hA, hst, if_pos (by assumption), if_neg hb]
    (refine Zl hc (hr := ?_))
    simp
  · exact ⟨j + 1, ⟨by omega, by rw [hA, hst, if_pos (by assumption), if_pos hb]⟩, by omega, run_back [3, 6, 7, 8] [] (by simp; exact Gives.mk) (by simp; exact Gives.mk) (by simp)⟩
  · rw [hA, hst, if_neg (by omega)]
    (refine Zl hc (hr := ?_))
    simp
theorem or_ok (x y : Int) : FnOk Tryz.prog 119 [.sl 2 fun i => [[int x], [int y]][i]?.getD [int 0]] (int (or2 x y)) := by
  have h := orL_ok [x, y] (by simp)
  have e : orL [x, y] 0 = or2 x y := by
    unfold or2
    rw [orL, orL, orL]
    simp
    by_cases hx : x = 0 <;> by_cases hy : y = 0 <;> simp [hx, hy]
  rw [e] at h
  refine FnOk.sim (.cons (.sl 2 _ _ fun i hi => ?_) .nil) h
  match i, hi with
  | 0, _ => rfl
  | 1, _ => rfl
theorem cmp_neg (a b : Bs) : Lib.compareBytes a b < 0 ↔ Op.bytesLess a b = true := by
  induction a generalizing b with
  | nil => cases b <;> simp [Lib.compareBytes, Op.bytesLess]
  | cons x a ih =>
    cases b with
    | nil => simp [Lib.compareBytes, Op.bytesLess]
    | cons y b =>
      rw [Lib.compareBytes, Op.bytesLess]
      rcases Nat.lt_trichotomy x.toNat y.toNat with h | h | h
      · have h1 : x < y := h
        rw [if_pos h1]
        simp [h1]
      · have h0 : x = y := UInt8.toNat_inj.1 h
        subst h0
        have h1 : ¬ x < x := fun e => by have : x.toNat < x.toNat := e; omega
        rw [if_neg h1, if_neg h1]
        simp [h1, ih]
      · have h1 : y < x := h
        have h2 : ¬ x < y := fun e => by have : x.toNat < y.toNat := e; omega
        have h3 : ¬ x = y := fun e => by rw [e] at h; omega
        rw [if_neg h2, if_pos h1]
        simp [h1, h2, h3]
theorem cmp_zero (a b : Bs) : Lib.compareBytes a b = 0 ↔ a = b := by
  induction a generalizing b with
  | nil => cases b <;> simp [Lib.compareBytes]
  | cons x a ih =>
    cases b with
    | nil => simp [Lib.compareBytes]
    | cons y b =>
      rw [Lib.compareBytes]
      rcases Nat.lt_trichotomy x.toNat y.toNat with h | h | h
      · have h1 : x < y := h
        have h3 : ¬ x = y := fun e => by rw [e] at h; omega
        rw [if_pos h1]
        simp [h3]
      · have h0 : x = y := UInt8.toNat_inj.1 h
        subst h0
        have h1 : ¬ x < x := fun e => by have : x.toNat < x.toNat := e; omega
        rw [if_neg h1, if_neg h1]
        simp [ih]
      · have h1 : y < x := h
        have h2 : ¬ x < y := fun e => by have : x.toNat < y.toNat := e; omega
        have h3 : ¬ x = y := fun e => by rw [e] at h; omega
        rw [if_neg h2, if_pos h1]
        simp [h3]
theorem bl_iff (x y : Bs) : Op.bytesLess x y = true ↔ x < y := by rw [Go.Proofs.bytesLess_eq]; simp
theorem bl_trans {a b c : Bs} (h1 : Op.bytesLess a b = true) (h2 : Op.bytesLess b c = true) : Op.bytesLess a c = true := (bl_iff _ _).2 (List.lt_trans ((bl_iff _ _).1 h1) ((bl_iff _ _).1 h2))
theorem bl_irrefl (a : Bs) : Op.bytesLess a a = false := by rw [Go.Proofs.bytesLess_eq]; simp
theorem bl_total {a b : Bs} (h1 : Op.bytesLess a b = false) (h2 : a ≠ b) : Op.bytesLess b a = true := by
  rw [bl_iff]
  rw [Go.Proofs.bytesLess_eq] at h1
  have h3 : ¬ a < b := by simpa using h1
  refine Classical.byContradiction fun h4 => h2 ?_
  exact List.le_antisymm h4 h3
end Go.Proofs.YtnainpghpjelcaaGreatDoor
/-
  FRONTIER: find, opens, next (program). (WITH run_drawN.)
-/
set_option linter.unusedSimpArgs false
set_option linter.unusedVariables false
namespace Go.Proofs.YtnainpghpjelcaaGreatDoor
open Go.Lw Go.RowKit
set_option maxRecDepth 100000
set_option maxHeartbeats 2000000

@[simp] theorem inR_u64 (n : Int) : inR .u64 n ↔ 0 ≤ n ∧ n ≤ 18446744073709551615 := by simp [inR, IntKind.min, IntKind.max, IntKind.signed, IntKind.bits]
theorem half_of {i j m : Nat} (h : (i + j) / 2 = m) : ((i : Int) + (j : Int)).fdiv (2 ^ min 1 IntKind.u64.bits) = (m : Int) := by
  have e : (2 : Int) ^ min 1 IntKind.u64.bits = 2 := by decide
  rw [e, Int.fdiv_eq_ediv_of_nonneg _ (by omega)]
  omega
/-- Each is behind the one ahead of it. -/
def ascB (K : Nat → Bs) (n : Nat) : Prop := ∀ i j, i < j → j < n → Op.bytesLess (K i) (K j) = true
theorem ascB_of (K : Nat → Bs) (n : Nat) (h : ∀ j, 0 < j → j < n → ¬ leB (K j) (K (j - 1))) : ascB K n := by
  intro i j hij hj
  induction j with
  | zero => omega
  | succ j ih =>
    have h1 : Op.bytesLess (K j) (K (j + 1)) = true := by
      have := h (j + 1) (by omega) hj
      rw [Nat.add_sub_cancel] at this
      refine bl_total ?_ (fun e => this (.inr e))
      cases hb : Op.bytesLess (K (j + 1)) (K j) with
      | false => rfl
      | true => exact absurd (.inl hb) this
    rcases Nat.lt_or_ge i j with h2 | h2
    · exact bl_trans (ih h2 (by omega)) h1
    · obtain rfl : i = j := by omega
      exact h1
/-- The first place, from one on, that isn't ahead of a string. -/
def lbGo (K : Nat → Bs) (n : Nat) (s : Bs) (i : Nat) : Nat := if i < n ∧ Op.bytesLess (K i) s = true then lbGo K n s (i + 1) else i
termination_by n - i
theorem lbGo_spec (K : Nat → Bs) (n : Nat) (s : Bs) (i : Nat) (hi : i ≤ n) (h : ∀ j, j < i → Op.bytesLess (K j) s = true) : i ≤ lbGo K n s i ∧ lbGo K n s i ≤ n ∧ (∀ j, j < lbGo K n s i → Op.bytesLess (K j) s = true) ∧ (lbGo K n s i < n → Op.bytesLess (K (lbGo K n s i)) s = false) := by
  rw [lbGo]
  split
  · rename_i hc
    have := lbGo_spec K n s (i + 1) (by omega) (fun j hj => by
      rcases Nat.lt_or_ge j i with h1 | h1
      · exact h j h1
      · obtain rfl : j = i := by omega
        exact hc.2)
    exact ⟨by omega, this.2⟩
  · rename_i hc
    refine ⟨Nat.le_refl _, hi, h, fun hn => ?_⟩
    cases hb : Op.bytesLess (K i) s with
    | false => rfl
    | true => exact absurd ⟨hn, hb⟩ hc
termination_by n - i
/-- The lower bound. -/
def lbB (K : Nat → Bs) (n : Nat) (s : Bs) : Nat := lbGo K n s 0
theorem lbB_spec (K : Nat → Bs) (n : Nat) (s : Bs) : lbB K n s ≤ n ∧ (∀ j, j < lbB K n s → Op.bytesLess (K j) s = true) ∧ (lbB K n s < n → Op.bytesLess (K (lbB K n s)) s = false) :=
  (lbGo_spec K n s 0 (Nat.zero_le _) (fun _ h => by omega)).2
theorem lbB_of {K : Nat → Bs} {n : Nat} {s : Bs} {i : Nat} (hi : i ≤ n) (h1 : ∀ j, j < i → Op.bytesLess (K j) s = true) (h2 : i < n → Op.bytesLess (K i) s = false) : lbB K n s = i := by
  obtain ⟨k1, k2, k3⟩ := lbB_spec K n s
  rcases Nat.lt_trichotomy (lbB K n s) i with h | h | h
  · have := h1 _ h
    rw [k3 (by omega)] at this
    cases this
  · exact h
  · have := k2 _ h
    rw [h2 (by omega)] at this
    cases this
/-- Is a string there? -/
def thereB (K : Nat → Bs) (n : Nat) (s : Bs) : Bool := decide (lbB K n s < n) && decide (K (lbB K n s) = s)
abbrev nameAt (H : List Hst) (j : Nat) : Bs := (hstAt H j).1
theorem findCmp_ok (x : Hst) (s : Bs) : FnOk Tryz.prog 148 [hstD x, str s] (int (Lib.compareBytes x.1 s)) := by
  refine fnOk Tryz.func148 rfl (by kernel_rfl) Tryz.ntmps148 _ rfl (by simp) fun C hc => ?_
  have h1 := strCompare_ok x.1 s
  repeat' (first | (first | refine Ya ?_ | refine Yb ?_ | refine Yc ?_ | refine Yd ?_ | refine Ye ?_ | refine Yf ?_ | refine Yg ?_ | refine Yh ?_ | refine Yi ?_ | refine Yj ?_ | refine Yk ?_ | refine Yl ?_ | refine Ym ?_ | refine Yn ?_ | refine Yo ?_ | refine Yp (h := ?_) | refine Yq ?_ | refine Yr ?_ | refine Ys ?_ | refine Zr hc (hk := ?_) | refine Zd hc (hk := ?_) | (refine Zc (ht := fun hb => ?_) (hf := fun hb => ?_) <;> (try simp at hb)) | fail) | (first | refine Zw hc (hf := by exact h1) (hk := ?_) | refine Zq hc (hf := by exact h1) (hk := ?_) | refine Zo hc (hk := ?_) | refine Zu hc (hk := ?_) | refine Ze hc (hk := ?_) | refine Zn hc (hk := ?_) | fail))
  (refine Zl hc (hr := ?_))
  simp
theorem bsHost_ok (H : List Hst) (s : Bs) (hl : H.length ≤ 300) (ha : ascB (nameAt H) H.length) : FnOk Tryz.prog 147 [hstSl H, str s, .lit (.func (.func 148) #[] #[])]
    (.tup [int (lbB (nameAt H) H.length s), tru (thereB (nameAt H) H.length s)]) := by
  refine fnOk Tryz.func147 rfl (by kernel_rfl) Tryz.ntmps147 _ rfl (by simp) fun C hc => ?_
  repeat' (first | (first | refine Ya ?_ | refine Yb ?_ | refine Yc ?_ | refine Yd ?_ | refine Ye ?_ | refine Yf ?_ | refine Yg ?_ | refine Yh ?_ | refine Yi ?_ | refine Yj ?_ | refine Yk ?_ | refine Yl ?_ | refine Ym ?_ | refine Yn ?_ | refine Yo ?_ | refine Yp (h := ?_) | refine Yq ?_ | refine Yr ?_ | refine Ys ?_ | refine Zr hc (hk := ?_) | refine Zd hc (hk := ?_) | (refine Zc (ht := fun hb => ?_) (hf := fun hb => ?_) <;> (try simp at hb)) | fail) | (first | refine Zo hc (hk := ?_) | refine Zu hc (hk := ?_) | refine Ze hc (hk := ?_) | refine Zn hc (hk := ?_) | fail))
  refine ewp_loop (fun x : Nat × Nat => ⟨[(0, .d (hstSl H)), (1, .d (str s)), (2, .d (.lit (.func (.func 148) #[] #[]))), (8, .d (int H.length)), (9, .d (int x.1)), (10, .d (int x.2))], []⟩)
    (fun x => x.1 ≤ x.2 ∧ x.2 ≤ H.length ∧ (∀ j, j < x.1 → Op.bytesLess (nameAt H j) s = true) ∧ (x.2 < H.length → Op.bytesLess (nameAt H x.2) s = false)) (fun x => x.2 - x.1) (0, H.length) (by simp) (run_keep [0, 1, 2, 8, 9, 10] [] (by simp; exact Gives.mk) (by simp; exact Gives.mk)) ?_
  rintro ⟨i, j⟩ ⟨h1, h2, h3, h4⟩
  simp only at h1 h2 h3 h4 ⊢
  by_cases hij : i < j
  · obtain ⟨m, hm, hm1, hm2⟩ : ∃ m : Nat, (i + j) / 2 = m ∧ i ≤ m ∧ m < j := ⟨_, rfl, by omega, by omega⟩
    have hC := findCmp_ok (hstAt H m) s
    have hneg := cmp_neg (hstAt H m).1 s
    generalize Lib.compareBytes (hstAt H m).1 s = c at hC hneg
    have hfd := half_of hm
    repeat' (first | (first | refine ewp_seq ?_ | refine run_region hc (by simp [hfd]; exact Ends.go) (by first | exact True.intro | omega | assumption | (simp; done) | (simp; omega) | (simp at *; omega)) ?_ | refine run_draw hc (by kernel_rfl) (by kernel_rfl) (by simp [hfd]; exact Ends.go) (by first | exact True.intro | omega | assumption | (simp; done) | (simp; omega) | (simp at *; omega)) ?_ | refine ewp_scope ?_ | refine scopeQ_normal ?_ | refine scopeQ_ret ?_ | refine scopeQ_exit ?_ | refine ewp_skip ?_ | refine ewp_block ?_ | refine ewp_exit ?_ | refine ewp_label ?_ | refine thenQ_normal ?_ | refine thenQ_ret ?_ | refine thenQ_exit ?_ | refine blockQ_normal ?_ | refine blockQ_ret ?_ | refine blockQ_here ?_ | refine blockQ_there (by decide) ?_ | refine ewp_ret ?_ | refine opsW_nil ?_ | refine quietW_nil ?_ | (refine run_cond (by simp [hfd]; exact Gives.mk) (fun hb => ?_) (fun hb => ?_) <;> (try simp at hb)) | fail) | (first | refine run_callW hc (by simp [hfd]; exact Gives.mk) (by simp [hfd]; exact Gives.mk) (by simp [hfd]; exact Gives.mk) (by simp [hfd]; exact Gives.mk) (by simp [hfd]; exact Gives.mk) (fun _ => by first | exact hC) (by simp) (by simp) ?_ | refine run_callQ hc (by simp [hfd]; exact Gives.mk) (by simp [hfd]; exact Gives.mk) (by simp [hfd]; exact Gives.mk) (by simp [hfd]; exact Gives.mk) (by simp [hfd]; exact Gives.mk) (fun _ => by first | exact hC) (by simp) (by simp) ?_ | refine run_ops hc (by simp [hfd]; first | exact Ends.go | exact Ends.halt) (by decide) (by first | exact True.intro | omega | assumption | (simp; done) | (simp; omega) | (simp at *; omega)) ?_ | refine run_quiet hc (by simp [hfd]; first | exact Ends.go | exact Ends.halt) (by decide) (by first | exact True.intro | omega | assumption | (simp; done) | (simp; omega) | (simp at *; omega)) ?_ | refine run_regionW hc (by simp [hfd]; exact Ends.halt) (by first | exact True.intro | omega | assumption | (simp; done) | (simp; omega) | (simp at *; omega)) ?_ | refine run_drawN hc (by kernel_rfl) (by decide) (by kernel_rfl) (by simp [hfd]; exact Ends.halt) (by first | exact True.intro | omega | assumption | (simp; done) | (simp; omega) | (simp at *; omega)) ?_ | fail))
    all_goals try (exfalso; omega)
    · have hk := hneg.1 hb
      exact ⟨(m + 1, j), ⟨by simp only; omega, h2, fun t ht => by
        simp only at ht
        rcases Nat.lt_or_ge t m with h | h
        · exact bl_trans (ha t m h (by omega)) hk
        · obtain rfl : t = m := by omega
          exact hk, h4⟩, by simp only; omega, run_back [0, 1, 2, 8, 9, 10] [] (by simp; exact Gives.mk) (by simp; exact Gives.mk) (by simp)⟩
    · have hk : Op.bytesLess (nameAt H m) s = false := Bool.eq_false_iff.2 fun e => by
        have := hneg.2 e
        omega
      exact ⟨(i, m), ⟨by simp only; omega, by simp only; omega, h3, fun _ => hk⟩, by simp only; omega, run_back [0, 1, 2, 8, 9, 10] [] (by simp; exact Gives.mk) (by simp; exact Gives.mk) (by simp)⟩
  · obtain rfl : i = j := by omega
    have e := lbB_of h2 h3 h4
    repeat' (first | (first | refine Ya ?_ | refine Yb ?_ | refine Yc ?_ | refine Yd ?_ | refine Ye ?_ | refine Yf ?_ | refine Yg ?_ | refine Yh ?_ | refine Yi ?_ | refine Yj ?_ | refine Yk ?_ | refine Yl ?_ | refine Ym ?_ | refine Yn ?_ | refine Yo ?_ | refine Yp (h := ?_) | refine Yq ?_ | refine Yr ?_ | refine Ys ?_ | refine Zr hc (hk := ?_) | refine Zd hc (hk := ?_) | (refine Zc (ht := fun hb => ?_) (hf := fun hb => ?_) <;> (try simp at hb)) | fail) | (first | refine Zo hc (hk := ?_) | refine Zu hc (hk := ?_) | refine Ze hc (hk := ?_) | refine Zn hc (hk := ?_) | fail))
    all_goals try (exfalso; omega)
    unfold thereB
    rw [e]
    by_cases hn : i < H.length
    · have hC := findCmp_ok (hstAt H i) s
      have hz := cmp_zero (hstAt H i).1 s
      generalize Lib.compareBytes (hstAt H i).1 s = c at hC hz
      repeat' (first | (first | refine ewp_seq ?_ | refine run_region hc (by simp [hn]; exact Ends.go) (by first | exact True.intro | omega | assumption | (simp; done) | (simp; omega) | (simp at *; omega)) ?_ | refine run_draw hc (by kernel_rfl) (by kernel_rfl) (by simp [hn]; exact Ends.go) (by first | exact True.intro | omega | assumption | (simp; done) | (simp; omega) | (simp at *; omega)) ?_ | refine ewp_scope ?_ | refine scopeQ_normal ?_ | refine scopeQ_ret ?_ | refine scopeQ_exit ?_ | refine ewp_skip ?_ | refine ewp_block ?_ | refine ewp_exit ?_ | refine ewp_label ?_ | refine thenQ_normal ?_ | refine thenQ_ret ?_ | refine thenQ_exit ?_ | refine blockQ_normal ?_ | refine blockQ_ret ?_ | refine blockQ_here ?_ | refine blockQ_there (by decide) ?_ | refine ewp_ret ?_ | refine opsW_nil ?_ | refine quietW_nil ?_ | (refine run_cond (by simp [hn]; exact Gives.mk) (fun hb => ?_) (fun hb => ?_) <;> (try simp at hb)) | fail) | (first | refine run_callW hc (by simp [hn]; exact Gives.mk) (by simp [hn]; exact Gives.mk) (by simp [hn]; exact Gives.mk) (by simp [hn]; exact Gives.mk) (by simp [hn]; exact Gives.mk) (fun _ => by first | exact hC) (by simp) (by simp) ?_ | refine run_callQ hc (by simp [hn]; exact Gives.mk) (by simp [hn]; exact Gives.mk) (by simp [hn]; exact Gives.mk) (by simp [hn]; exact Gives.mk) (by simp [hn]; exact Gives.mk) (fun _ => by first | exact hC) (by simp) (by simp) ?_ | refine run_ops hc (by simp [hn]; first | exact Ends.go | exact Ends.halt) (by decide) (by first | exact True.intro | omega | assumption | (simp; done) | (simp; omega) | (simp at *; omega)) ?_ | refine run_quiet hc (by simp [hn]; first | exact Ends.go | exact Ends.halt) (by decide) (by first | exact True.intro | omega | assumption | (simp; done) | (simp; omega) | (simp at *; omega)) ?_ | refine run_regionW hc (by simp [hn]; exact Ends.halt) (by first | exact True.intro | omega | assumption | (simp; done) | (simp; omega) | (simp at *; omega)) ?_ | refine run_drawN hc (by kernel_rfl) (by decide) (by kernel_rfl) (by simp [hn]; exact Ends.halt) (by first | exact True.intro | omega | assumption | (simp; done) | (simp; omega) | (simp at *; omega)) ?_ | fail))
      (refine Zl hc (hr := ?_))
      have e2 : (c == 0) = decide (nameAt H i = s) := by
        rw [Bool.eq_iff_iff]
        simpa using hz
      simp [hn, e2]
    · repeat' (first | (first | refine ewp_seq ?_ | refine run_region hc (by simp [hn]; exact Ends.go) (by first | exact True.intro | omega | assumption | (simp; done) | (simp; omega) | (simp at *; omega)) ?_ | refine run_draw hc (by kernel_rfl) (by kernel_rfl) (by simp [hn]; exact Ends.go) (by first | exact True.intro | omega | assumption | (simp; done) | (simp; omega) | (simp at *; omega)) ?_ | refine ewp_scope ?_ | refine scopeQ_normal ?_ | refine scopeQ_ret ?_ | refine scopeQ_exit ?_ | refine ewp_skip ?_ | refine ewp_block ?_ | refine ewp_exit ?_ | refine ewp_label ?_ | refine thenQ_normal ?_ | refine thenQ_ret ?_ | refine thenQ_exit ?_ | refine blockQ_normal ?_ | refine blockQ_ret ?_ | refine blockQ_here ?_ | refine blockQ_there (by decide) ?_ | refine ewp_ret ?_ | refine opsW_nil ?_ | refine quietW_nil ?_ | (refine run_cond (by simp [hn]; exact Gives.mk) (fun hb => ?_) (fun hb => ?_) <;> (try simp at hb)) | fail) | (first | refine run_skip hc (by simp [hn]; exact Gives.mk) (by simp) ?_ | fail) | (first | refine run_callW hc (by simp [hn]; exact Gives.mk) (by simp [hn]; exact Gives.mk) (by simp [hn]; exact Gives.mk) (by simp [hn]; exact Gives.mk) (by simp [hn]; exact Gives.mk) (fun _ => by first | exact (show FnOk _ _ _ (int 0) from by exfalso; simp_all; done)) (by simp) (by simp) ?_ | refine run_callQ hc (by simp [hn]; exact Gives.mk) (by simp [hn]; exact Gives.mk) (by simp [hn]; exact Gives.mk) (by simp [hn]; exact Gives.mk) (by simp [hn]; exact Gives.mk) (fun _ => by first | exact (show FnOk _ _ _ (int 0) from by exfalso; simp_all; done)) (by simp) (by simp) ?_ | refine run_ops hc (by simp [hn]; first | exact Ends.go | exact Ends.halt) (by decide) (by first | exact True.intro | omega | assumption | (simp; done) | (simp; omega) | (simp at *; omega)) ?_ | refine run_quiet hc (by simp [hn]; first | exact Ends.go | exact Ends.halt) (by decide) (by first | exact True.intro | omega | assumption | (simp; done) | (simp; omega) | (simp at *; omega)) ?_ | refine run_regionW hc (by simp [hn]; exact Ends.halt) (by first | exact True.intro | omega | assumption | (simp; done) | (simp; omega) | (simp at *; omega)) ?_ | refine run_drawN hc (by kernel_rfl) (by decide) (by kernel_rfl) (by simp [hn]; exact Ends.halt) (by first | exact True.intro | omega | assumption | (simp; done) | (simp; omega) | (simp at *; omega)) ?_ | fail))
      (refine Zl hc (hr := ?_))
      simp [hn]
theorem find_ok (f : Frt) (s : Bs) (hl : f.hosts.length ≤ 300) (ha : ascB (nameAt f.hosts) f.hosts.length) : FnOk Tryz.prog 87 [frD f, str s] (.tup [int (lbB (nameAt f.hosts) f.hosts.length s), tru (thereB (nameAt f.hosts) f.hosts.length s)]) := by
  refine fnOk Tryz.func87 rfl (by kernel_rfl) Tryz.ntmps87 _ rfl (by simp) fun C hc => ?_
  have h1 := bsHost_ok f.hosts s hl ha
  repeat' (first | (first | refine Ya ?_ | refine Yb ?_ | refine Yc ?_ | refine Yd ?_ | refine Ye ?_ | refine Yf ?_ | refine Yg ?_ | refine Yh ?_ | refine Yi ?_ | refine Yj ?_ | refine Yk ?_ | refine Yl ?_ | refine Ym ?_ | refine Yn ?_ | refine Yo ?_ | refine Yp (h := ?_) | refine Yq ?_ | refine Yr ?_ | refine Ys ?_ | refine Zr hc (hk := ?_) | refine Zd hc (hk := ?_) | (refine Zc (ht := fun hb => ?_) (hf := fun hb => ?_) <;> (try simp at hb)) | fail) | (first | refine Zw hc (hf := by exact h1) (hk := ?_) | refine Zq hc (hf := by exact h1) (hk := ?_) | refine Zo hc (hk := ?_) | refine Zu hc (hk := ?_) | refine Ze hc (hk := ?_) | refine Zn hc (hk := ?_) | fail))
  (refine Zl hc (hr := ?_))
  simp
/-- From when on a host is open; whether it ever is. -/
def opensP (f : Frt) (s : Bs) : Int × Bool :=
  if thereB (nameAt f.hosts) f.hosts.length s = false then (0, true)
  else if (hstAt f.hosts (lbB (nameAt f.hosts) f.hosts.length s)).2.2.1 = true then (0, false)
  else (if f.budget ≤ (hstAt f.hosts (lbB (nameAt f.hosts) f.hosts.length s)).2.2.2.length then
    max (hstAt f.hosts (lbB (nameAt f.hosts) f.hosts.length s)).2.1 ((hstAt f.hosts (lbB (nameAt f.hosts) f.hosts.length s)).2.2.2[((hstAt f.hosts (lbB (nameAt f.hosts) f.hosts.length s)).2.2.2.length - f.budget.toNat)]?.getD 0 + f.window) else (hstAt f.hosts (lbB (nameAt f.hosts) f.hosts.length s)).2.1, true)
/-- What the check of a frontier gives. -/
structure FrGood (f : Frt) : Prop where
  budget : 1 ≤ f.budget ∧ f.budget ≤ 200
  window : 1 ≤ f.window ∧ f.window ≤ 100000000
  items : f.items.length ≤ 2000
  hosts : f.hosts.length ≤ 300
  wnt : ∀ j, j < f.items.length → wntE (wntAt f.items j) = 0
  keys : ascB (fun j => (wntAt f.items j).1) f.items.length
  names : ascB (nameAt f.hosts) f.hosts.length
  isHo : ∀ j, j < f.hosts.length → isHo (nameAt f.hosts j) = true
  free : ∀ j, j < f.hosts.length → 0 ≤ (hstAt f.hosts j).2.1 ∧ (hstAt f.hosts j).2.1 ≤ 253502300799
  many : ∀ j, j < f.hosts.length → (hstAt f.hosts j).2.2.2.length ≤ 200
  starts : ∀ j, j < f.hosts.length → ∀ k, k < (hstAt f.hosts j).2.2.2.length → okM ((hstAt f.hosts j).2.2.2[k]?.getD 0) ∧ (0 < k → (hstAt f.hosts j).2.2.2[k - 1]?.getD 0 ≤ (hstAt f.hosts j).2.2.2[k]?.getD 0)
theorem opens_ok (f : Frt) (s : Bs) (hg : FrGood f) : FnOk Tryz.prog 51 [frD f, str s] (.tup [int (opensP f s).1, tru (opensP f s).2]) := by
  refine fnOk Tryz.func51 rfl (by kernel_rfl) Tryz.ntmps51 _ rfl (by simp) fun C hc => ?_
  have h1 := find_ok f s hg.hosts hg.names
  obtain ⟨b1, b2⟩ := hg.budget
  obtain ⟨w1, w2⟩ := hg.window
  have hlt : thereB (nameAt f.hosts) f.hosts.length s = true → lbB (nameAt f.hosts) f.hosts.length s < f.hosts.length := fun e => by
    unfold thereB at e
    simp at e
    exact e.1
  have hst := hg.starts (lbB (nameAt f.hosts) f.hosts.length s)
  have hmn := hg.many (lbB (nameAt f.hosts) f.hosts.length s)
  have hhl := hg.hosts
  obtain ⟨I, H, bu, wi⟩ := f
  simp only at b1 b2 w1 w2 h1 hlt hst hmn hhl
  unfold opensP
  simp only
  generalize thereB (nameAt H) H.length s = th at h1 hlt ⊢
  generalize lbB (nameAt H) H.length s = k at h1 hlt hst hmn ⊢
  cases th
  · repeat' (first | (first | refine Ya ?_ | refine Yb ?_ | refine Yc ?_ | refine Yd ?_ | refine Ye ?_ | refine Yf ?_ | refine Yg ?_ | refine Yh ?_ | refine Yi ?_ | refine Yj ?_ | refine Yk ?_ | refine Yl ?_ | refine Ym ?_ | refine Yn ?_ | refine Yo ?_ | refine Yp (h := ?_) | refine Yq ?_ | refine Yr ?_ | refine Ys ?_ | refine Zr hc (hk := ?_) | refine Zd hc (hk := ?_) | (refine Zc (ht := fun hb => ?_) (hf := fun hb => ?_) <;> (try simp at hb)) | fail) | (first | refine Zw hc (hf := by exact h1) (hk := ?_) | refine Zq hc (hf := by exact h1) (hk := ?_) | refine Zo hc (hk := ?_) | refine Zu hc (hk := ?_) | refine Ze hc (hk := ?_) | refine Zn hc (hk := ?_) | fail))
    all_goals try contradiction
    rw [if_pos rfl]
    (refine Zl hc (hr := ?_))
    simp
  · have hk := hlt rfl
    have hst := hst hk
    have hmn := hmn hk
    clear hlt
    rw [if_neg (by decide)]
    have hix := hst ((hstAt H k).2.2.2.length - bu.toNat)
    have hbn : ((bu.toNat : Nat) : Int) = bu := Int.toNat_of_nonneg (by omega)
    generalize hbu : bu.toNat = bn at hix hbn ⊢
    subst hbn
    clear hbu hst
    repeat' (first | (first | refine Ya ?_ | refine Yb ?_ | refine Yc ?_ | refine Yd ?_ | refine Ye ?_ | refine Yf ?_ | refine Yg ?_ | refine Yh ?_ | refine Yi ?_ | refine Yj ?_ | refine Yk ?_ | refine Yl ?_ | refine Ym ?_ | refine Yn ?_ | refine Yo ?_ | refine Yp (h := ?_) | refine Yq ?_ | refine Yr ?_ | refine Ys ?_ | refine Zr hc (hk := ?_) | refine Zd hc (hk := ?_) | (refine Zc (ht := fun hb => ?_) (hf := fun hb => ?_) <;> (try simp at hb)) | fail) | (first | refine Zw hc (hf := by exact h1) (hk := ?_) | refine Zq hc (hf := by exact h1) (hk := ?_) | refine Zo hc (hk := ?_) | refine Zu hc (hk := ?_) | refine Ze hc (hk := ?_) | refine Zn hc (hk := ?_) | fail))
    all_goals try contradiction
    · rw [if_pos hb]
      (refine Zl hc (hr := ?_))
      simp
    · rename_i g
      rw [if_neg (by simp [g]), if_pos (by omega)]
      (refine Zl hc (hr := ?_))
      simp
      rw [Int.max_def]
      split <;> split <;> omega
    · rename_i g
      rw [if_neg (by simp [g]), if_neg (by omega)]
      (refine Zl hc (hr := ?_))
      simp
theorem frHostOf_ok (s : Bs) (h : (41 : UInt8) ∈ s) (hm : s.length ≤ 9223372036854775807) : FnOk Tryz.prog 52 [str s] (str (hostK s)) := by
  refine fnOk Tryz.func52 rfl (by kernel_rfl) Tryz.ntmps52 _ rfl (by simp) fun C hc => ?_
  have h1 := indexByte_ok s 41
  obtain ⟨n, hn, e, et⟩ := host_take h
  rw [e] at h1
  rw [← et]
  repeat' (first | (first | refine Ya ?_ | refine Yb ?_ | refine Yc ?_ | refine Yd ?_ | refine Ye ?_ | refine Yf ?_ | refine Yg ?_ | refine Yh ?_ | refine Yi ?_ | refine Yj ?_ | refine Yk ?_ | refine Yl ?_ | refine Ym ?_ | refine Yn ?_ | refine Yo ?_ | refine Yp (h := ?_) | refine Yq ?_ | refine Yr ?_ | refine Ys ?_ | refine Zr hc (hk := ?_) | refine Zd hc (hk := ?_) | (refine Zc (ht := fun hb => ?_) (hf := fun hb => ?_) <;> (try simp at hb)) | fail) | (first | refine Zw hc (hf := by exact h1) (hk := ?_) | refine Zq hc (hf := by exact h1) (hk := ?_) | refine Zo hc (hk := ?_) | refine Zu hc (hk := ?_) | refine Ze hc (hk := ?_) | refine Zn hc (hk := ?_) | fail))
  (refine Zl hc (hr := ?_))
  simp
/-- Is an item more urgent than another one? -/
abbrev better (a b : Wnt) : Prop := a.2.1 < b.2.1 ∨ (a.2.1 = b.2.1 ∧ a.2.2 < b.2.2)
/-- May an item be fetched at a moment? -/
def rdyP (f : Frt) (t : Int) (x : Wnt) : Bool := decide (x.2.2 ≤ t) && (opensP f (hostK x.1)).2 && decide ((opensP f (hostK x.1)).1 ≤ t)
def nextGo (L : List Wnt) (r : Wnt → Bool) (j : Nat) (b : Int) : Int :=
  if j < L.length then nextGo L r (j + 1) (if r (wntAt L j) = true ∧ (b < 0 ∨ better (wntAt L j) (wntAt L b.toNat)) then (j : Int) else b) else b
termination_by L.length - j
theorem wnt_key {x : Wnt} (h : wntE x = 0) : (ofK x.1).2 = 0 ∧ (0 ≤ x.2.1 ∧ x.2.1 ≤ 9) ∧ okM x.2.2 := by
  unfold wntE at h
  by_cases h1 : (ofK x.1).2 = 0
  · rw [if_neg (fun e => e h1)] at h
    by_cases h2 : decide (0 ≤ x.2.1 ∧ x.2.1 ≤ 9) = false ∨ decide (okM x.2.2) = false
    · rw [if_pos h2] at h; cases h
    · exact ⟨h1, by simpa using fun e => h2 (.inl (decide_eq_false e)), by simpa using fun e => h2 (.inr (decide_eq_false e))⟩
  · rw [if_pos h1] at h; exact absurd h h1
theorem or2_better (a b : Wnt) : or2 (Lib.compareInt a.2.1 b.2.1) (Lib.compareInt a.2.2 b.2.2) < 0 ↔ better a b := by
  obtain ⟨_, a1, a2⟩ := a
  obtain ⟨_, b1, b2⟩ := b
  show or2 (Lib.compareInt a1 b1) (Lib.compareInt a2 b2) < 0 ↔ (a1 < b1 ∨ (a1 = b1 ∧ a2 < b2))
  have c1 {x y : Int} (h : x < y) : Lib.compareInt x y = -1 := by unfold Lib.compareInt; rw [if_pos h]
  have c2 (x : Int) : Lib.compareInt x x = 0 := by unfold Lib.compareInt; rw [if_neg (by omega), if_neg (by omega)]
  have c3 {x y : Int} (h : y < x) : Lib.compareInt x y = 1 := by unfold Lib.compareInt; rw [if_neg (by omega), if_pos h]
  unfold or2
  rcases Int.lt_trichotomy a1 b1 with h | h | h
  · rw [c1 h, if_pos (by decide)]
    exact ⟨fun _ => .inl h, fun _ => by decide⟩
  · subst h
    rw [c2, if_neg (by decide)]
    rcases Int.lt_trichotomy a2 b2 with k | k | k
    · rw [c1 k]
      exact ⟨fun _ => .inr ⟨rfl, k⟩, fun _ => by decide⟩
    · subst k
      rw [c2]
      exact ⟨fun e => absurd e (by decide), fun e => by omega⟩
    · rw [c3 k]
      exact ⟨fun e => absurd e (by decide), fun e => by omega⟩
  · rw [c3 h, if_pos (by decide)]
    exact ⟨fun e => absurd e (by decide), fun e => by omega⟩
theorem next_ok (f : Frt) (t : Int) (hg : FrGood f) : FnOk Tryz.prog 54 [frD f, int t] (int (nextGo f.items (rdyP f t) 0 (-1))) := by
  refine fnOk Tryz.func54 rfl (by kernel_rfl) Tryz.ntmps54 _ rfl (by simp) fun C hc => ?_
  have hil := hg.items
  repeat' (first | (first | refine Ya ?_ | refine Yb ?_ | refine Yc ?_ | refine Yd ?_ | refine Ye ?_ | refine Yf ?_ | refine Yg ?_ | refine Yh ?_ | refine Yi ?_ | refine Yj ?_ | refine Yk ?_ | refine Yl ?_ | refine Ym ?_ | refine Yn ?_ | refine Yo ?_ | refine Yp (h := ?_) | refine Yq ?_ | refine Yr ?_ | refine Ys ?_ | refine Zr hc (hk := ?_) | refine Zd hc (hk := ?_) | (refine Zc (ht := fun hb => ?_) (hf := fun hb => ?_) <;> (try simp at hb)) | fail) | (first | refine Zo hc (hk := ?_) | refine Zu hc (hk := ?_) | refine Ze hc (hk := ?_) | refine Zn hc (hk := ?_) | fail))
  refine ewp_loop (fun x : Nat × Int => ⟨[(1, .d (int t)), (2, .bp 2 0), (5, .d (int x.2)), (11, .d (wntSl f.items)), (12, .d (int f.items.length)), (13, .d (int x.1))], [(2, .box 25 [.d (wntSl f.items), .d (hstSl f.hosts), .d (int f.budget), .d (int f.window)])]⟩)
    (fun x => x.1 ≤ f.items.length ∧ -1 ≤ x.2 ∧ x.2 < x.1 ∧ nextGo f.items (rdyP f t) 0 (-1) = nextGo f.items (rdyP f t) x.1 x.2) (fun x => f.items.length - x.1) (0, -1) (by simp) (run_keep [1, 2, 5, 11, 12, 13] [2] (by simp; exact Gives.mk) (by simp; exact Gives.mk)) ?_
  rintro ⟨j, b⟩ ⟨hj, hb1, hb2, hA⟩
  simp only at hj hb1 hb2 hA ⊢
  by_cases hlt : j < f.items.length
  rotate_left
  · rw [nextGo.eq_def f.items (rdyP f t) j b, if_neg hlt] at hA
    repeat' (first | (first | refine Ya ?_ | refine Yb ?_ | refine Yc ?_ | refine Yd ?_ | refine Ye ?_ | refine Yf ?_ | refine Yg ?_ | refine Yh ?_ | refine Yi ?_ | refine Yj ?_ | refine Yk ?_ | refine Yl ?_ | refine Ym ?_ | refine Yn ?_ | refine Yo ?_ | refine Yp (h := ?_) | refine Yq ?_ | refine Yr ?_ | refine Ys ?_ | refine Zr hc (hk := ?_) | refine Zd hc (hk := ?_) | (refine Zc (ht := fun hb => ?_) (hf := fun hb => ?_) <;> (try simp at hb)) | fail) | (first | refine Zo hc (hk := ?_) | refine Zu hc (hk := ?_) | refine Ze hc (hk := ?_) | refine Zn hc (hk := ?_) | fail))
    all_goals try (exfalso; omega)
    rw [hA]
    (refine Zl hc (hr := ?_))
    simp
  rw [nextGo.eq_def f.items (rdyP f t) j b, if_pos hlt] at hA
  obtain ⟨k1, k2, k3⟩ := wnt_key (hg.wnt j hlt)
  have kl : (wntAt f.items j).1.length ≤ 2000 := (ofK_cases _).elim (fun h => absurd k1 h.1) (·.2.1)
  have h1 := frHostOf_ok (wntAt f.items j).1 (of_has k1) (by omega)
  have h2 := opens_ok f (hostK (wntAt f.items j).1) hg
  have hr : rdyP f t (wntAt f.items j) = (decide ((wntAt f.items j).2.2 ≤ t) && (opensP f (hostK (wntAt f.items j).1)).2 && decide ((opensP f (hostK (wntAt f.items j).1)).1 ≤ t)) := rfl
  have hcp1 := compare_ok (wntAt f.items j).2.1 (wntAt f.items b.toNat).2.1
  have hcp2 := compare_ok (wntAt f.items j).2.2 (wntAt f.items b.toNat).2.2
  have hor := or_ok (Lib.compareInt (wntAt f.items j).2.1 (wntAt f.items b.toNat).2.1) (Lib.compareInt (wntAt f.items j).2.2 (wntAt f.items b.toNat).2.2)
  have hob := or2_better (wntAt f.items j) (wntAt f.items b.toNat)
  generalize or2 (Lib.compareInt (wntAt f.items j).2.1 (wntAt f.items b.toNat).2.1) (Lib.compareInt (wntAt f.items j).2.2 (wntAt f.items b.toNat).2.2) = oo at hor hob
  generalize Lib.compareInt (wntAt f.items j).2.1 (wntAt f.items b.toNat).2.1 = c1 at hor hcp1
  generalize Lib.compareInt (wntAt f.items j).2.2 (wntAt f.items b.toNat).2.2 = c2 at hor hcp2
  generalize opensP f (hostK (wntAt f.items j).1) = op at h2 hr
  generalize rdyP f t (wntAt f.items j) = rd at hr hA
  generalize hostK (wntAt f.items j).1 = hk at h1 h2
  obtain ⟨o1, o2⟩ := op
  simp only at h2 hr
  repeat' (first | (first | refine Ya ?_ | refine Yb ?_ | refine Yc ?_ | refine Yd ?_ | refine Ye ?_ | refine Yf ?_ | refine Yg ?_ | refine Yh ?_ | refine Yi ?_ | refine Yj ?_ | refine Yk ?_ | refine Yl ?_ | refine Ym ?_ | refine Yn ?_ | refine Yo ?_ | refine Yp (h := ?_) | refine Yq ?_ | refine Yr ?_ | refine Ys ?_ | refine Zr hc (hk := ?_) | refine Zd hc (hk := ?_) | (refine Zc (ht := fun hb => ?_) (hf := fun hb => ?_) <;> (try simp at hb)) | fail) | (first | refine Zw hc (hf := by first | exact h1 | exact h2) (hk := ?_) | refine Zq hc (hf := by first | exact h1 | exact h2) (hk := ?_) | refine Zo hc (hk := ?_) | refine Zu hc (hk := ?_) | refine Ze hc (hk := ?_) | refine Zn hc (hk := ?_) | fail))
  all_goals try (exfalso; omega)
  · have hrf : rd = false := by
      rw [hr]
      rcases hb with (h | h) | h
      · rw [decide_eq_false (by omega)]; rfl
      · rw [h]; simp
      · rw [decide_eq_false (p := o1 ≤ t) (by omega)]; simp
    rw [if_neg (by rw [hrf]; simp)] at hA
    exact ⟨(j + 1, b), ⟨by simp only; omega, hb1, by simp only; omega, hA⟩, by simp only; omega, run_back [1, 2, 5, 11, 12, 13] [2] (by simp; exact Gives.mk) (by simp; exact Gives.mk) (by simp)⟩
  · have hrt : rd = true := by
      rw [hr]
      simp [hb.1.1, hb.1.2, hb.2]
    rw [hrt] at hA
    clear hr hrt h1 h2 hb
    rcases Int.lt_or_le b 0 with hbn | hbn
    · obtain rfl : b = -1 := by omega
      rw [if_pos ⟨rfl, .inl (by decide)⟩] at hA
      clear hob hor hcp1 hcp2
      (refine run_drawT 21 hc (by kernel_rfl) (by kernel_rfl) ?_; try simp only [List.take_succ_cons, List.take_zero, List.drop_succ_cons, List.drop_zero])
      repeat' (first | (first | refine Ya ?_ | refine Yb ?_ | refine Yc ?_ | refine Yd ?_ | refine Ye ?_ | refine Yf ?_ | refine Yg ?_ | refine Yh ?_ | refine Yi ?_ | refine Yj ?_ | refine Yk ?_ | refine Yl ?_ | refine Ym ?_ | refine Yn ?_ | refine Yo ?_ | refine Yp (h := ?_) | refine Yq ?_ | refine Yr ?_ | refine Ys ?_ | refine Zr hc (hk := ?_) | refine Zd hc (hk := ?_) | (refine Zc (ht := fun hb => ?_) (hf := fun hb => ?_) <;> (try simp at hb)) | fail) | (first | refine run_skip hc (by simp; exact Gives.mk) (by simp) ?_ | fail) | (first | refine run_callW hc (by simp; exact Gives.mk) (by simp; exact Gives.mk) (by simp; exact Gives.mk) (by simp; exact Gives.mk) (by simp; exact Gives.mk) (fun _ => by first | exact (show FnOk _ _ _ (int 0) from by exfalso; simp_all; done)) (by simp) (by simp) ?_ | refine run_callQ hc (by simp; exact Gives.mk) (by simp; exact Gives.mk) (by simp; exact Gives.mk) (by simp; exact Gives.mk) (by simp; exact Gives.mk) (fun _ => by first | exact (show FnOk _ _ _ (int 0) from by exfalso; simp_all; done)) (by simp) (by simp) ?_ | refine run_ops hc (by simp; first | exact Ends.go | exact Ends.halt) (by decide) (by first | exact True.intro | omega | assumption | (simp; done) | (simp; omega) | (simp at *; omega)) ?_ | refine run_quiet hc (by simp; first | exact Ends.go | exact Ends.halt) (by decide) (by first | exact True.intro | omega | assumption | (simp; done) | (simp; omega) | (simp at *; omega)) ?_ | refine run_regionW hc (by simp; exact Ends.halt) (by first | exact True.intro | omega | assumption | (simp; done) | (simp; omega) | (simp at *; omega)) ?_ | refine run_drawN hc (by kernel_rfl) (by decide) (by kernel_rfl) (by simp; exact Ends.halt) (by first | exact True.intro | omega | assumption | (simp; done) | (simp; omega) | (simp at *; omega)) ?_ | fail))
      exact ⟨(j + 1, (j : Int)), ⟨by simp only; omega, by simp only; omega, by simp only; omega, hA⟩, by simp only; omega, run_back [1, 2, 5, 11, 12, 13] [2] (by simp; exact Gives.mk) (by simp; exact Gives.mk) (by simp)⟩
    · obtain ⟨bn, rfl⟩ : ∃ n : Nat, b = (n : Int) := ⟨b.toNat, by omega⟩
      simp only [Int.toNat_natCast] at hA hob hcp1 hcp2
      (refine run_drawT 21 hc (by kernel_rfl) (by kernel_rfl) ?_; try simp only [List.take_succ_cons, List.take_zero, List.drop_succ_cons, List.drop_zero])
      repeat' (first | (first | refine Ya ?_ | refine Yb ?_ | refine Yc ?_ | refine Yd ?_ | refine Ye ?_ | refine Yf ?_ | refine Yg ?_ | refine Yh ?_ | refine Yi ?_ | refine Yj ?_ | refine Yk ?_ | refine Yl ?_ | refine Ym ?_ | refine Yn ?_ | refine Yo ?_ | refine Yp (h := ?_) | refine Yq ?_ | refine Yr ?_ | refine Ys ?_ | refine Zr hc (hk := ?_) | refine Zd hc (hk := ?_) | (refine Zc (ht := fun hb => ?_) (hf := fun hb => ?_) <;> (try simp at hb)) | fail) | (first | refine Zw hc (hf := by first | exact hcp1 | exact hcp2 | exact hor) (hk := ?_) | refine Zq hc (hf := by first | exact hcp1 | exact hcp2 | exact hor) (hk := ?_) | refine Zo hc (hk := ?_) | refine Zu hc (hk := ?_) | refine Ze hc (hk := ?_) | refine Zn hc (hk := ?_) | fail) | (first | refine run_skip hc (by simp; exact Gives.mk) (by simp) ?_ | fail))
      · rw [if_pos ⟨trivial, .inr (hob.1 (hb.resolve_left (by omega)))⟩] at hA
        exact ⟨(j + 1, (j : Int)), ⟨by simp only; omega, by simp only; omega, by simp only; omega, hA⟩, by simp only; omega, run_back [1, 2, 5, 11, 12, 13] [2] (by simp; exact Gives.mk) (by simp; exact Gives.mk) (by simp)⟩
      · rw [if_neg (fun h => by
          rcases h.2 with h | h
          · omega
          · have := hob.2 h
            omega)] at hA
        exact ⟨(j + 1, (bn : Int)), ⟨by simp only; omega, hb1, by simp only; omega, hA⟩, by simp only; omega, run_back [1, 2, 5, 11, 12, 13] [2] (by simp; exact Gives.mk) (by simp; exact Gives.mk) (by simp)⟩
end Go.Proofs.YtnainpghpjelcaaGreatDoor
/-
  FRONTIER: Next, Wait, Spent (program). (WITH run_drawN.)
-/
set_option linter.unusedSimpArgs false
set_option linter.unusedVariables false
namespace Go.Proofs.YtnainpghpjelcaaGreatDoor
open Go.Lw Go.RowKit
set_option maxRecDepth 100000
set_option maxHeartbeats 2000000

theorem max2_eq (a b : Int) : (if a < b then b else a) = max a b := by rw [Int.max_def]; split <;> split <;> omega
theorem itemsGo_all (L : List Wnt) (j : Nat) (h : itemsGo L j = 0) : ∀ i, j ≤ i → i < L.length → wntE (wntAt L i) = 0 ∧ ¬ (0 < i ∧ leB (wntAt L i).1 (wntAt L (i - 1)).1) := by
  intro i hji hi
  rw [itemsGo, if_pos (by omega)] at h
  by_cases h1 : wntE (wntAt L j) ≠ 0
  · rw [if_pos h1] at h; exact absurd h h1
  · rw [if_neg h1] at h
    by_cases h2 : 0 < j ∧ leB (wntAt L j).1 (wntAt L (j - 1)).1
    · rw [if_pos h2] at h; cases h
    · rw [if_neg h2] at h
      rcases Nat.lt_or_ge j i with h3 | h3
      · exact itemsGo_all L (j + 1) h i (by omega) hi
      · obtain rfl : i = j := by omega
        exact ⟨by omega, h2⟩
termination_by L.length - j
theorem startsGo_all (l : List Int) (j : Nat) (h : startsGo l j = 0) : ∀ i, j ≤ i → i < l.length → okM (l[i]?.getD 0) ∧ ¬ (0 < i ∧ l[i]?.getD 0 < l[i - 1]?.getD 0) := by
  intro i hji hi
  rw [startsGo, if_pos (by omega)] at h
  by_cases h1 : decide (okM (l[j]?.getD 0)) = false
  · rw [if_pos h1] at h; cases h
  · rw [if_neg h1] at h
    by_cases h2 : 0 < j ∧ l[j]?.getD 0 < l[j - 1]?.getD 0
    · rw [if_pos h2] at h; cases h
    · rw [if_neg h2] at h
      rcases Nat.lt_or_ge j i with h3 | h3
      · exact startsGo_all l (j + 1) h i (by omega) hi
      · obtain rfl : i = j := by omega
        exact ⟨by simpa using h1, h2⟩
termination_by l.length - j
theorem hostsGo_all (L : List Hst) (j : Nat) (h : hostsGo L j = 0) : ∀ i, j ≤ i → i < L.length → hostE L i = 0 := by
  intro i hji hi
  rw [hostsGo, if_pos (by omega)] at h
  by_cases h1 : hostE L j ≠ 0
  · rw [if_pos h1] at h; exact absurd h h1
  · rw [if_neg h1] at h
    rcases Nat.lt_or_ge j i with h3 | h3
    · exact hostsGo_all L (j + 1) h i (by omega) hi
    · obtain rfl : i = j := by omega
      omega
termination_by L.length - j
theorem hostE_all {L : List Hst} {j : Nat} (h : hostE L j = 0) : isHo (nameAt L j) = true ∧ ¬ (0 < j ∧ leB (nameAt L j) (nameAt L (j - 1))) ∧ (0 ≤ (hstAt L j).2.1 ∧ (hstAt L j).2.1 ≤ 253502300799) ∧ startsE (hstAt L j).2.2.2 = 0 := by
  unfold hostE at h
  by_cases h1 : isHo (hstAt L j).1 = false
  · rw [if_pos h1] at h; cases h
  rw [if_neg h1] at h
  by_cases h2 : 0 < j ∧ leB (hstAt L j).1 (hstAt L (j - 1)).1
  · rw [if_pos h2] at h; cases h
  rw [if_neg h2] at h
  by_cases h3 : decide (0 ≤ (hstAt L j).2.1 ∧ (hstAt L j).2.1 ≤ 253502300799) = false
  · rw [if_pos h3] at h; cases h
  rw [if_neg h3] at h
  exact ⟨by simpa using h1, h2, by simpa using h3, h⟩
theorem frE_good {f : Frt} (h : frE f = 0) : FrGood f := by
  unfold frE at h
  by_cases h1 : decide (1 ≤ f.budget ∧ f.budget ≤ 200) = false ∨ decide (1 ≤ f.window ∧ f.window ≤ 100000000) = false
  · rw [if_pos h1] at h; cases h
  rw [if_neg h1] at h
  by_cases h2 : 2000 < f.items.length
  · rw [if_pos h2] at h; cases h
  rw [if_neg h2] at h
  by_cases h3 : itemsGo f.items 0 ≠ 0
  · rw [if_pos h3] at h; exact absurd h h3
  rw [if_neg h3] at h
  by_cases h4 : 300 < f.hosts.length
  · rw [if_pos h4] at h; cases h
  rw [if_neg h4] at h
  have hi := itemsGo_all f.items 0 (by omega)
  have hh := fun i hi => hostE_all (hostsGo_all f.hosts 0 h i (Nat.zero_le _) hi)
  have hs : ∀ j, j < f.hosts.length → (hstAt f.hosts j).2.2.2.length ≤ 200 ∧ startsGo (hstAt f.hosts j).2.2.2 0 = 0 := fun j hj => by
    have := (hh j hj).2.2.2
    unfold startsE at this
    split at this
    · cases this
    · exact ⟨by omega, this⟩
  refine ⟨by simpa using fun e => h1 (.inl (decide_eq_false e)), by simpa using fun e => h1 (.inr (decide_eq_false e)), by omega, by omega, fun j hj => (hi j (by omega) hj).1,
    ascB_of _ _ fun j h0 hj hl => (hi j (by omega) hj).2 ⟨h0, hl⟩, ascB_of _ _ fun j h0 hj hl => (hh j hj).2.1 ⟨h0, hl⟩, fun j hj => (hh j hj).1, fun j hj => (hh j hj).2.2.1, fun j hj => (hs j hj).1, fun j hj k hk => ?_⟩
  obtain ⟨k1, k2⟩ := startsGo_all _ 0 (hs j hj).2 k (Nat.zero_le _) hk
  exact ⟨k1, fun h0 => by omega⟩
/-- The fault of a frontier and a moment. -/
def atE (f : Frt) (t : Int) : Nat := if frE f ≠ 0 then frE f else if decide (okM t) = false then 1 else 0
theorem atE_good {f : Frt} {t : Int} (h : atE f t = 0) : FrGood f ∧ okM t := by
  unfold atE at h
  by_cases h1 : frE f ≠ 0
  · rw [if_pos h1] at h; exact absurd h h1
  rw [if_neg h1] at h
  by_cases h2 : decide (okM t) = false
  · rw [if_pos h2] at h; cases h
  exact ⟨frE_good (by omega), by simpa using h2⟩
theorem checkAt_ok (f : Frt) (t : Int) (hf : FrOk f) : FnOk Tryz.prog 50 [frD f, int t] (int (atE f t)) := by
  refine fnOk Tryz.func50 rfl (by kernel_rfl) Tryz.ntmps50 _ rfl (by simp) fun C hc => ?_
  have h1 := checkFr_ok f hf
  have h2 := frMoment_ok t
  unfold atE
  generalize frE f = e at h1 ⊢
  generalize decide (okM t) = w at h2 ⊢
  repeat' (first | (first | refine Ya ?_ | refine Yb ?_ | refine Yc ?_ | refine Yd ?_ | refine Ye ?_ | refine Yf ?_ | refine Yg ?_ | refine Yh ?_ | refine Yi ?_ | refine Yj ?_ | refine Yk ?_ | refine Yl ?_ | refine Ym ?_ | refine Yn ?_ | refine Yo ?_ | refine Yp (h := ?_) | refine Yq ?_ | refine Yr ?_ | refine Ys ?_ | refine Zr hc (hk := ?_) | refine Zd hc (hk := ?_) | (refine Zc (ht := fun hb => ?_) (hf := fun hb => ?_) <;> (try simp at hb)) | fail) | (first | refine Zw hc (hf := by first | exact h1 | exact h2) (hk := ?_) | refine Zq hc (hf := by first | exact h1 | exact h2) (hk := ?_) | refine Zo hc (hk := ?_) | refine Zu hc (hk := ?_) | refine Ze hc (hk := ?_) | refine Zn hc (hk := ?_) | fail))
  · rw [if_pos hb]
    (refine Zl hc (hr := ?_))
    simp
  · rename_i g
    rw [if_neg (fun h => h g), if_pos hb]
    (refine Zl hc (hr := ?_))
    simp
  · rename_i g
    rw [if_neg (fun h => h g), if_neg (by simp [hb])]
    (refine Zl hc (hr := ?_))
    simp
def nextC (f : Frt) (t : Int) : Int × Bool × Nat := if atE f t ≠ 0 then (0, false, atE f t) else (max (nextGo f.items (rdyP f t) 0 (-1)) 0, decide (0 ≤ nextGo f.items (rdyP f t) 0 (-1)), 0)
theorem nextF_ok (f : Frt) (t : Int) (hf : FrOk f) : FnOk Tryz.prog 16 [frD f, int t] (.tup [int (nextC f t).1, tru (nextC f t).2.1, int (nextC f t).2.2]) := by
  refine fnOk Tryz.func16 rfl (by kernel_rfl) Tryz.ntmps16 _ rfl (by simp) fun C hc => ?_
  have h1 := checkAt_ok f t hf
  unfold nextC
  by_cases h0 : atE f t = 0
  · rw [if_neg (fun e => e h0)]
    rw [h0] at h1
    have h2 := next_ok f t (atE_good h0).1
    generalize nextGo f.items (rdyP f t) 0 (-1) = n at h2 ⊢
    repeat' (first | (first | refine Ya ?_ | refine Yb ?_ | refine Yc ?_ | refine Yd ?_ | refine Ye ?_ | refine Yf ?_ | refine Yg ?_ | refine Yh ?_ | refine Yi ?_ | refine Yj ?_ | refine Yk ?_ | refine Yl ?_ | refine Ym ?_ | refine Yn ?_ | refine Yo ?_ | refine Yp (h := ?_) | refine Yq ?_ | refine Yr ?_ | refine Ys ?_ | refine Zr hc (hk := ?_) | refine Zd hc (hk := ?_) | (refine Zc (ht := fun hb => ?_) (hf := fun hb => ?_) <;> (try simp at hb)) | fail) | (first | refine Zw hc (hf := by first | exact h1 | exact h2) (hk := ?_) | refine Zq hc (hf := by first | exact h1 | exact h2) (hk := ?_) | refine Zo hc (hk := ?_) | refine Zu hc (hk := ?_) | refine Ze hc (hk := ?_) | refine Zn hc (hk := ?_) | fail))
    all_goals try contradiction
    (refine Zl hc (hr := ?_))
    simp
    rw [Int.max_def]
    split <;> split <;> omega
  · rw [if_pos h0]
    generalize atE f t = e at h0 h1 ⊢
    repeat' (first | (first | refine Ya ?_ | refine Yb ?_ | refine Yc ?_ | refine Yd ?_ | refine Ye ?_ | refine Yf ?_ | refine Yg ?_ | refine Yh ?_ | refine Yi ?_ | refine Yj ?_ | refine Yk ?_ | refine Yl ?_ | refine Ym ?_ | refine Yn ?_ | refine Yo ?_ | refine Yp (h := ?_) | refine Yq ?_ | refine Yr ?_ | refine Ys ?_ | refine Zr hc (hk := ?_) | refine Zd hc (hk := ?_) | (refine Zc (ht := fun hb => ?_) (hf := fun hb => ?_) <;> (try simp at hb)) | fail) | (first | refine Zw hc (hf := by exact h1) (hk := ?_) | refine Zq hc (hf := by exact h1) (hk := ?_) | refine Zo hc (hk := ?_) | refine Zu hc (hk := ?_) | refine Ze hc (hk := ?_) | refine Zn hc (hk := ?_) | fail))
    all_goals try contradiction
    (refine Zl hc (hr := ?_))
    simp
/-- When an item can be fetched. -/
def waitN (f : Frt) (t : Int) (x : Wnt) : Int := max t (max x.2.2 (opensP f (hostK x.1)).1)
def waitGo (L : List Wnt) (n : Wnt → Int) (o : Wnt → Bool) (j : Nat) (b : Int) : Int :=
  if j < L.length then waitGo L n o (j + 1) (if o (wntAt L j) = true ∧ n (wntAt L j) ≤ 253402300799 ∧ (b < 0 ∨ n (wntAt L j) < b) then n (wntAt L j) else b) else b
termination_by L.length - j
def opnP (f : Frt) (x : Wnt) : Bool := (opensP f (hostK x.1)).2
def waitC (f : Frt) (t : Int) : Int × Nat := if atE f t ≠ 0 then (0, atE f t) else (waitGo f.items (waitN f t) (opnP f) 0 (-1), 0)
/-- How often a host was asked. -/
def spentGo (l : List Int) (lo hi : Int) (j : Nat) : Nat := if j < l.length then (if lo < l[j]?.getD 0 ∧ l[j]?.getD 0 ≤ hi then 1 else 0) + spentGo l lo hi (j + 1) else 0
termination_by l.length - j
def spentC (f : Frt) (s : Bs) (t : Int) : Int × Nat := if atE f t ≠ 0 then (0, atE f t) else if thereB (nameAt f.hosts) f.hosts.length s = false then (0, 9) else (spentGo (hstAt f.hosts (lbB (nameAt f.hosts) f.hosts.length s)).2.2.2 (t - f.window) t 0, 0)
end Go.Proofs.YtnainpghpjelcaaGreatDoor
