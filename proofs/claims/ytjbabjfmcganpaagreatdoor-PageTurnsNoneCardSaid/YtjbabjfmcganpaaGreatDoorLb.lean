/-
  cmp.Compare, cmp.Or, strings.Compare. (WITH run_drawN.)
-/
import Derived.Test.YtjbabjfmcganpaaGreatDoorLibS
import Derived.Test.YtjbabjfmcganpaaGreatDoorLwFlt
import Derived.Sort.Walk0
set_option linter.unusedSimpArgs false
set_option linter.unusedVariables false
namespace Go.Proofs.YtjbabjfmcganpaaGreatDoor
open Go.Lw Go.RowKit
set_option maxRecDepth 100000
set_option maxHeartbeats 1000000

theorem strCompare_ok (a b : Bs) : FnOk Tryz.prog 49 [str a, str b] (int (Lib.compareBytes a b)) :=
  fnOk_lits [.string (bs a), .string (bs b)] (by kernel_rfl) fun w _ => Tryz.strings_Compare (bs a) (bs b) w
/-- The first of two numbers that is not 0. -/
def or2 (x y : Int) : Int := if x ≠ 0 then x else y
def orL (l : List Int) (j : Nat) : Int := if j < l.length then (if l[j]?.getD 0 = 0 then orL l (j + 1) else l[j]?.getD 0) else 0
termination_by l.length - j
theorem cmp_neg (a b : Bs) : Lib.compareBytes a b < 0 ↔ Op.bytesLess a b = true := by
  induction a generalizing b with
  | nil => cases b <;> simp [Lib.compareBytes, Op.bytesLess]
  | cons x a ih =>
    cases b with
    | nil => simp [Lib.compareBytes, Op.bytesLess]
    | cons y b =>
      rw [Lib.compareBytes, Op.bytesLess]
      rcases Nat.lt_trichotomy x.toNat y.toNat with h | h | h
      · have h1 : x < y := h
        rw [if_pos h1]
        simp [h1]
      · have h0 : x = y := UInt8.toNat_inj.1 h
        subst h0
        have h1 : ¬ x < x := fun e => by have : x.toNat < x.toNat := e; omega
        rw [if_neg h1, if_neg h1]
        simp [h1, ih]
      · have h1 : y < x := h
        have h2 : ¬ x < y := fun e => by have : x.toNat < y.toNat := e; omega
        have h3 : ¬ x = y := fun e => by rw [e] at h; omega
        rw [if_neg h2, if_pos h1]
        simp [h1, h2, h3]
theorem cmp_zero (a b : Bs) : Lib.compareBytes a b = 0 ↔ a = b := by
  induction a generalizing b with
  | nil => cases b <;> simp [Lib.compareBytes]
  | cons x a ih =>
    cases b with
    | nil => simp [Lib.compareBytes]
    | cons y b =>
      rw [Lib.compareBytes]
      rcases Nat.lt_trichotomy x.toNat y.toNat with h | h | h
      · have h1 : x < y := h
        have h3 : ¬ x = y := fun e => by rw [e] at h; omega
        rw [if_pos h1]
        simp [h3]
      · have h0 : x = y := UInt8.toNat_inj.1 h
        subst h0
        have h1 : ¬ x < x := fun e => by have : x.toNat < x.toNat := e; omega
        rw [if_neg h1, if_neg h1]
        simp [ih]
      · have h1 : y < x := h
        have h2 : ¬ x < y := fun e => by have : x.toNat < y.toNat := e; omega
        have h3 : ¬ x = y := fun e => by rw [e] at h; omega
        rw [if_neg h2, if_pos h1]
        simp [h3]
theorem bl_iff (x y : Bs) : Op.bytesLess x y = true ↔ x < y := by rw [Go.Proofs.bytesLess_eq]; simp
theorem bl_trans {a b c : Bs} (h1 : Op.bytesLess a b = true) (h2 : Op.bytesLess b c = true) : Op.bytesLess a c = true := (bl_iff _ _).2 (List.lt_trans ((bl_iff _ _).1 h1) ((bl_iff _ _).1 h2))
theorem bl_total {a b : Bs} (h1 : Op.bytesLess a b = false) (h2 : a ≠ b) : Op.bytesLess b a = true := by
  rw [bl_iff]
  rw [Go.Proofs.bytesLess_eq] at h1
  have h3 : ¬ a < b := by simpa using h1
  refine Classical.byContradiction fun h4 => h2 ?_
  exact List.le_antisymm h4 h3
end Go.Proofs.YtjbabjfmcganpaaGreatDoor
/-
  The lower bound of a string among strings that ascend. (WITH run_drawN.)
-/
set_option linter.unusedSimpArgs false
set_option linter.unusedVariables false
namespace Go.Proofs.YtjbabjfmcganpaaGreatDoor
open Go.Lw Go.RowKit
set_option maxRecDepth 100000
set_option maxHeartbeats 2000000

@[simp] theorem inR_u64 (n : Int) : inR .u64 n ↔ 0 ≤ n ∧ n ≤ 18446744073709551615 := by simp [inR, IntKind.min, IntKind.max, IntKind.signed, IntKind.bits]
theorem half_of {i j m : Nat} (h : (i + j) / 2 = m) : ((i : Int) + (j : Int)).fdiv (2 ^ min 1 IntKind.u64.bits) = (m : Int) := by
  have e : (2 : Int) ^ min 1 IntKind.u64.bits = 2 := by decide
  rw [e, Int.fdiv_eq_ediv_of_nonneg _ (by omega)]
  omega
/-- Each is behind the one ahead of it. -/
def ascB (K : Nat → Bs) (n : Nat) : Prop := ∀ i j, i < j → j < n → Op.bytesLess (K i) (K j) = true
abbrev leB (a b : Bs) : Prop := Op.bytesLess a b = true ∨ a = b
theorem ascB_of (K : Nat → Bs) (n : Nat) (h : ∀ j, 0 < j → j < n → ¬ leB (K j) (K (j - 1))) : ascB K n := by
  intro i j hij hj
  induction j with
  | zero => omega
  | succ j ih =>
    have h1 : Op.bytesLess (K j) (K (j + 1)) = true := by
      have := h (j + 1) (by omega) hj
      rw [Nat.add_sub_cancel] at this
      refine bl_total ?_ (fun e => this (.inr e))
      cases hb : Op.bytesLess (K (j + 1)) (K j) with
      | false => rfl
      | true => exact absurd (.inl hb) this
    rcases Nat.lt_or_ge i j with h2 | h2
    · exact bl_trans (ih h2 (by omega)) h1
    · obtain rfl : i = j := by omega
      exact h1
/-- The first place, from one on, that isn't ahead of a string. -/
def lbGo (K : Nat → Bs) (n : Nat) (s : Bs) (i : Nat) : Nat := if i < n ∧ Op.bytesLess (K i) s = true then lbGo K n s (i + 1) else i
termination_by n - i
theorem lbGo_spec (K : Nat → Bs) (n : Nat) (s : Bs) (i : Nat) (hi : i ≤ n) (h : ∀ j, j < i → Op.bytesLess (K j) s = true) : i ≤ lbGo K n s i ∧ lbGo K n s i ≤ n ∧ (∀ j, j < lbGo K n s i → Op.bytesLess (K j) s = true) ∧ (lbGo K n s i < n → Op.bytesLess (K (lbGo K n s i)) s = false) := by
  rw [lbGo]
  split
  · rename_i hc
    have := lbGo_spec K n s (i + 1) (by omega) (fun j hj => by
      rcases Nat.lt_or_ge j i with h1 | h1
      · exact h j h1
      · obtain rfl : j = i := by omega
        exact hc.2)
    exact ⟨by omega, this.2⟩
  · rename_i hc
    refine ⟨Nat.le_refl _, hi, h, fun hn => ?_⟩
    cases hb : Op.bytesLess (K i) s with
    | false => rfl
    | true => exact absurd ⟨hn, hb⟩ hc
termination_by n - i
/-- The lower bound. -/
def lbB (K : Nat → Bs) (n : Nat) (s : Bs) : Nat := lbGo K n s 0
theorem lbB_spec (K : Nat → Bs) (n : Nat) (s : Bs) : lbB K n s ≤ n ∧ (∀ j, j < lbB K n s → Op.bytesLess (K j) s = true) ∧ (lbB K n s < n → Op.bytesLess (K (lbB K n s)) s = false) :=
  (lbGo_spec K n s 0 (Nat.zero_le _) (fun _ h => by omega)).2
theorem lbB_of {K : Nat → Bs} {n : Nat} {s : Bs} {i : Nat} (hi : i ≤ n) (h1 : ∀ j, j < i → Op.bytesLess (K j) s = true) (h2 : i < n → Op.bytesLess (K i) s = false) : lbB K n s = i := by
  obtain ⟨k1, k2, k3⟩ := lbB_spec K n s
  rcases Nat.lt_trichotomy (lbB K n s) i with h | h | h
  · have := h1 _ h
    rw [k3 (by omega)] at this
    cases this
  · exact h
  · have := k2 _ h
    rw [h2 (by omega)] at this
    cases this
/-- Is a string there? -/
def thereB (K : Nat → Bs) (n : Nat) (s : Bs) : Bool := decide (lbB K n s < n) && decide (K (lbB K n s) = s)
end Go.Proofs.YtjbabjfmcganpaaGreatDoor
