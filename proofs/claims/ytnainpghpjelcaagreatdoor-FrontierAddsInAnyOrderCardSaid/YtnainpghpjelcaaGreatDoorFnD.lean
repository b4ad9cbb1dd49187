/-
  cmp.Compare, cmp.Or, strings.Compare. (WITH run_drawN.)
-/
import Derived.Test.YtnainpghpjelcaaGreatDoorLibS
import Derived.Test.YtnainpghpjelcaaGreatDoorLwFlt
import Derived.Sort.Walk0
import Derived.Test.YtnainpghpjelcaaGreatDoorFnA
set_option linter.unusedSimpArgs false
set_option linter.unusedVariables false
namespace Go.Proofs.YtnainpghpjelcaaGreatDoor
open Go.Lw Go.RowKit
set_option maxRecDepth 100000
set_option maxHeartbeats 1000000

theorem strCompare_ok (a b : Bs) : FnOk Tryz.prog 59 [str a, str b] (int (Lib.compareBytes a b)) :=
  fnOk_lits [.string (bs a), .string (bs b)] (by kernel_rfl) fun w _ => Tryz.strings_Compare (bs a) (bs b) w
/-- The first of two numbers that is not 0. -/
def or2 (x y : Int) : Int := if x ≠ 0 then x else y
def orL (l : List Int) (j : Nat) : Int := if j < l.length then (if l[j]?.getD 0 = 0 then orL l (j + 1) else l[j]?.getD 0) else 0
termination_by l.length - j
theorem cmp_neg (a b : Bs) : Lib.compareBytes a b < 0 ↔ Op.bytesLess a b = true := by
  induction a generalizing b with
  | nil => cases b <;> simp [Lib.compareBytes, Op.bytesLess]
  | cons x a ih =>
    cases b with
    | nil => simp [Lib.compareBytes, Op.bytesLess]
    | cons y b =>
      rw [Lib.compareBytes, Op.bytesLess]
      rcases Nat.lt_trichotomy x.toNat y.toNat with h | h | h
      · have h1 : x < y := h
        rw [if_pos h1]
        simp [h1]
      · have h0 : x = y := UInt8.toNat_inj.1 h
        subst h0
        have h1 : ¬ x < x := fun e => by have : x.toNat < x.toNat := e; omega
        rw [if_neg h1, if_neg h1]
        simp [h1, ih]
      · have h1 : y < x := h
        have h2 : ¬ x < y := fun e => by have : x.toNat < y.toNat := e; omega
        have h3 : ¬ x = y := fun e => by rw [e] at h; omega
        rw [if_neg h2, if_pos h1]
        simp [h1, h2, h3]
theorem cmp_zero (a b : Bs) : Lib.compareBytes a b = 0 ↔ a = b := by
  induction a generalizing b with
  | nil => cases b <;> simp [Lib.compareBytes]
  | cons x a ih =>
    cases b with
    | nil => simp [Lib.compareBytes]
    | cons y b =>
      rw [Lib.compareBytes]
      rcases Nat.lt_trichotomy x.toNat y.toNat with h | h | h
      · have h1 : x < y := h
        have h3 : ¬ x = y := fun e => by rw [e] at h; omega
        rw [if_pos h1]
        simp [h3]
      · have h0 : x = y := UInt8.toNat_inj.1 h
        subst h0
        have h1 : ¬ x < x := fun e => by have : x.toNat < x.toNat := e; omega
        rw [if_neg h1, if_neg h1]
        simp [ih]
      · have h1 : y < x := h
        have h2 : ¬ x < y := fun e => by have : x.toNat < y.toNat := e; omega
        have h3 : ¬ x = y := fun e => by rw [e] at h; omega
        rw [if_neg h2, if_pos h1]
        simp [h3]
theorem bl_iff (x y : Bs) : Op.bytesLess x y = true ↔ x < y := by rw [Go.Proofs.bytesLess_eq]; simp
theorem bl_trans {a b c : Bs} (h1 : Op.bytesLess a b = true) (h2 : Op.bytesLess b c = true) : Op.bytesLess a c = true := (bl_iff _ _).2 (List.lt_trans ((bl_iff _ _).1 h1) ((bl_iff _ _).1 h2))
theorem bl_irrefl (a : Bs) : Op.bytesLess a a = false := by rw [Go.Proofs.bytesLess_eq]; simp
theorem bl_total {a b : Bs} (h1 : Op.bytesLess a b = false) (h2 : a ≠ b) : Op.bytesLess b a = true := by
  rw [bl_iff]
  rw [Go.Proofs.bytesLess_eq] at h1
  have h3 : ¬ a < b := by simpa using h1
  refine Classical.byContradiction fun h4 => h2 ?_
  exact List.le_antisymm h4 h3
end Go.Proofs.YtnainpghpjelcaaGreatDoor
/-
  FRONTIER: find, opens, next (program). (WITH run_drawN.)
-/
set_option linter.unusedSimpArgs false
set_option linter.unusedVariables false
namespace Go.Proofs.YtnainpghpjelcaaGreatDoor
open Go.Lw Go.RowKit
set_option maxRecDepth 100000
set_option maxHeartbeats 2000000

@[simp] theorem inR_u64 (n : Int) : inR .u64 n ↔ 0 ≤ n ∧ n ≤ 18446744073709551615 := by simp [inR, IntKind.min, IntKind.max, IntKind.signed, IntKind.bits]
theorem half_of {i j m : Nat} (h : (i + j) / 2 = m) : ((i : Int) + (j : Int)).fdiv (2 ^ min 1 IntKind.u64.bits) = (m : Int) := by
  have e : (2 : Int) ^ min 1 IntKind.u64.bits = 2 := by decide
  rw [e, Int.fdiv_eq_ediv_of_nonneg _ (by omega)]
  omega
/-- Each is behind the one ahead of it. -/
def ascB (K : Nat → Bs) (n : Nat) : Prop := ∀ i j, i < j → j < n → Op.bytesLess (K i) (K j) = true
theorem ascB_of (K : Nat → Bs) (n : Nat) (h : ∀ j, 0 < j → j < n → ¬ leB (K j) (K (j - 1))) : ascB K n := by
  intro i j hij hj
  induction j with
  | zero => omega
  | succ j ih =>
    have h1 : Op.bytesLess (K j) (K (j + 1)) = true := by
      have := h (j + 1) (by omega) hj
      rw [Nat.add_sub_cancel] at this
      refine bl_total ?_ (fun e => this (.inr e))
      cases hb : Op.bytesLess (K (j + 1)) (K j) with
      | false => rfl
      | true => exact absurd (.inl hb) this
    rcases Nat.lt_or_ge i j with h2 | h2
    · exact bl_trans (ih h2 (by omega)) h1
    · obtain rfl : i = j := by omega
      exact h1
/-- The first place, from one on, that isn't ahead of a string. -/
def lbGo (K : Nat → Bs) (n : Nat) (s : Bs) (i : Nat) : Nat := if i < n ∧ Op.bytesLess (K i) s = true then lbGo K n s (i + 1) else i
termination_by n - i
theorem lbGo_spec (K : Nat → Bs) (n : Nat) (s : Bs) (i : Nat) (hi : i ≤ n) (h : ∀ j, j < i → Op.bytesLess (K j) s = true) : i ≤ lbGo K n s i ∧ lbGo K n s i ≤ n ∧ (∀ j, j < lbGo K n s i → Op.bytesLess (K j) s = true) ∧ (lbGo K n s i < n → Op.bytesLess (K (lbGo K n s i)) s = false) := by
  rw [lbGo]
  split
  · rename_i hc
    have := lbGo_spec K n s (i + 1) (by omega) (fun j hj => by
      rcases Nat.lt_or_ge j i with h1 | h1
      · exact h j h1
      · obtain rfl : j = i := by omega
        exact hc.2)
    exact ⟨by omega, this.2⟩
  · rename_i hc
    refine ⟨Nat.le_refl _, hi, h, fun hn => ?_⟩
    cases hb : Op.bytesLess (K i) s with
    | false => rfl
    | true => exact absurd ⟨hn, hb⟩ hc
termination_by n - i
/-- The lower bound. -/
def lbB (K : Nat → Bs) (n : Nat) (s : Bs) : Nat := lbGo K n s 0
theorem lbB_spec (K : Nat → Bs) (n : Nat) (s : Bs) : lbB K n s ≤ n ∧ (∀ j, j < lbB K n s → Op.bytesLess (K j) s = true) ∧ (lbB K n s < n → Op.bytesLess (K (lbB K n s)) s = false) :=
  (lbGo_spec K n s 0 (Nat.zero_le _) (fun _ h => by omega)).2
theorem lbB_of {K : Nat → Bs} {n : Nat} {s : Bs} {i : Nat} (hi : i ≤ n) (h1 : ∀ j, j < i → Op.bytesLess (K j) s = true) (h2 : i < n → Op.bytesLess (K i) s = false) : lbB K n s = i := by
  obtain ⟨k1, k2, k3⟩ := lbB_spec K n s
  rcases Nat.lt_trichotomy (lbB K n s) i with h | h | h
  · have := h1 _ h
    rw [k3 (by omega)] at this
    cases this
  · exact h
  · have := k2 _ h
    rw [h2 (by omega)] at this
    cases this
/-- Is a string there? -/
def thereB (K : Nat → Bs) (n : Nat) (s : Bs) : Bool := decide (lbB K n s < n) && decide (K (lbB K n s) = s)
abbrev nameAt (H : List Hst) (j : Nat) : Bs := (hstAt H j).1
/-- From when on a host is open; whether it ever is. -/
def opensP (f : Frt) (s : Bs) : Int × Bool :=
  if thereB (nameAt f.hosts) f.hosts.length s = false then (0, true)
  else if (hstAt f.hosts (lbB (nameAt f.hosts) f.hosts.length s)).2.2.1 = true then (0, false)
  else (if f.budget ≤ (hstAt f.hosts (lbB (nameAt f.hosts) f.hosts.length s)).2.2.2.length then
    max (hstAt f.hosts (lbB (nameAt f.hosts) f.hosts.length s)).2.1 ((hstAt f.hosts (lbB (nameAt f.hosts) f.hosts.length s)).2.2.2[((hstAt f.hosts (lbB (nameAt f.hosts) f.hosts.length s)).2.2.2.length - f.budget.toNat)]?.getD 0 + f.window) else (hstAt f.hosts (lbB (nameAt f.hosts) f.hosts.length s)).2.1, true)
/-- What the check of a frontier gives. -/
structure FrGood (f : Frt) : Prop where
  budget : 1 ≤ f.budget ∧ f.budget ≤ 200
  window : 1 ≤ f.window ∧ f.window ≤ 100000000
  items : f.items.length ≤ 2000
  hosts : f.hosts.length ≤ 300
  wnt : ∀ j, j < f.items.length → wntE (wntAt f.items j) = 0
  keys : ascB (fun j => (wntAt f.items j).1) f.items.length
  names : ascB (nameAt f.hosts) f.hosts.length
  isHo : ∀ j, j < f.hosts.length → isHo (nameAt f.hosts j) = true
  free : ∀ j, j < f.hosts.length → 0 ≤ (hstAt f.hosts j).2.1 ∧ (hstAt f.hosts j).2.1 ≤ 253502300799
  many : ∀ j, j < f.hosts.length → (hstAt f.hosts j).2.2.2.length ≤ 200
  starts : ∀ j, j < f.hosts.length → ∀ k, k < (hstAt f.hosts j).2.2.2.length → okM ((hstAt f.hosts j).2.2.2[k]?.getD 0) ∧ (0 < k → (hstAt f.hosts j).2.2.2[k - 1]?.getD 0 ≤ (hstAt f.hosts j).2.2.2[k]?.getD 0)
/-- Is an item more urgent than another one? -/
abbrev better (a b : Wnt) : Prop := a.2.1 < b.2.1 ∨ (a.2.1 = b.2.1 ∧ a.2.2 < b.2.2)
/-- May an item be fetched at a moment? -/
def rdyP (f : Frt) (t : Int) (x : Wnt) : Bool := decide (x.2.2 ≤ t) && (opensP f (hostK x.1)).2 && decide ((opensP f (hostK x.1)).1 ≤ t)
def nextGo (L : List Wnt) (r : Wnt → Bool) (j : Nat) (b : Int) : Int :=
  if j < L.length then nextGo L r (j + 1) (if r (wntAt L j) = true ∧ (b < 0 ∨ better (wntAt L j) (wntAt L b.toNat)) then (j : Int) else b) else b
termination_by L.length - j
end Go.Proofs.YtnainpghpjelcaaGreatDoor
/-
  FRONTIER: Next, Wait, Spent (program). (WITH run_drawN.)
-/
set_option linter.unusedSimpArgs false
set_option linter.unusedVariables false
namespace Go.Proofs.YtnainpghpjelcaaGreatDoor
open Go.Lw Go.RowKit
set_option maxRecDepth 100000
set_option maxHeartbeats 2000000

theorem itemsGo_all (L : List Wnt) (j : Nat) (h : itemsGo L j = 0) : ∀ i, j ≤ i → i < L.length → wntE (wntAt L i) = 0 ∧ ¬ (0 < i ∧ leB (wntAt L i).1 (wntAt L (i - 1)).1) := by
  intro i hji hi
  rw [itemsGo, if_pos (by omega)] at h
  by_cases h1 : wntE (wntAt L j) ≠ 0
  · rw [if_pos h1] at h; exact absurd h h1
  · rw [if_neg h1] at h
    by_cases h2 : 0 < j ∧ leB (wntAt L j).1 (wntAt L (j - 1)).1
    · rw [if_pos h2] at h; cases h
    · rw [if_neg h2] at h
      rcases Nat.lt_or_ge j i with h3 | h3
      · exact itemsGo_all L (j + 1) h i (by omega) hi
      · obtain rfl : i = j := by omega
        exact ⟨by omega, h2⟩
termination_by L.length - j
theorem startsGo_all (l : List Int) (j : Nat) (h : startsGo l j = 0) : ∀ i, j ≤ i → i < l.length → okM (l[i]?.getD 0) ∧ ¬ (0 < i ∧ l[i]?.getD 0 < l[i - 1]?.getD 0) := by
  intro i hji hi
  rw [startsGo, if_pos (by omega)] at h
  by_cases h1 : decide (okM (l[j]?.getD 0)) = false
  · rw [if_pos h1] at h; cases h
  · rw [if_neg h1] at h
    by_cases h2 : 0 < j ∧ l[j]?.getD 0 < l[j - 1]?.getD 0
    · rw [if_pos h2] at h; cases h
    · rw [if_neg h2] at h
      rcases Nat.lt_or_ge j i with h3 | h3
      · exact startsGo_all l (j + 1) h i (by omega) hi
      · obtain rfl : i = j := by omega
        exact ⟨by simpa using h1, h2⟩
termination_by l.length - j
theorem hostsGo_all (L : List Hst) (j : Nat) (h : hostsGo L j = 0) : ∀ i, j ≤ i → i < L.length → hostE L i = 0 := by
  intro i hji hi
  rw [hostsGo, if_pos (by omega)] at h
  by_cases h1 : hostE L j ≠ 0
  · rw [if_pos h1] at h; exact absurd h h1
  · rw [if_neg h1] at h
    rcases Nat.lt_or_ge j i with h3 | h3
    · exact hostsGo_all L (j + 1) h i (by omega) hi
    · obtain rfl : i = j := by omega
      omega
termination_by L.length - j
theorem hostE_all {L : List Hst} {j : Nat} (h : hostE L j = 0) : isHo (nameAt L j) = true ∧ ¬ (0 < j ∧ leB (nameAt L j) (nameAt L (j - 1))) ∧ (0 ≤ (hstAt L j).2.1 ∧ (hstAt L j).2.1 ≤ 253502300799) ∧ startsE (hstAt L j).2.2.2 = 0 := by
  unfold hostE at h
  by_cases h1 : isHo (hstAt L j).1 = false
  · rw [if_pos h1] at h; cases h
  rw [if_neg h1] at h
  by_cases h2 : 0 < j ∧ leB (hstAt L j).1 (hstAt L (j - 1)).1
  · rw [if_pos h2] at h; cases h
  rw [if_neg h2] at h
  by_cases h3 : decide (0 ≤ (hstAt L j).2.1 ∧ (hstAt L j).2.1 ≤ 253502300799) = false
  · rw [if_pos h3] at h; cases h
  rw [if_neg h3] at h
  exact ⟨by simpa using h1, h2, by simpa using h3, h⟩
theorem frE_good {f : Frt} (h : frE f = 0) : FrGood f := by
  unfold frE at h
  by_cases h1 : decide (1 ≤ f.budget ∧ f.budget ≤ 200) = false ∨ decide (1 ≤ f.window ∧ f.window ≤ 100000000) = false
  · rw [if_pos h1] at h; cases h
  rw [if_neg h1] at h
  by_cases h2 : 2000 < f.items.length
  · rw [if_pos h2] at h; cases h
  rw [if_neg h2] at h
  by_cases h3 : itemsGo f.items 0 ≠ 0
  · rw [if_pos h3] at h; exact absurd h h3
  rw [if_neg h3] at h
  by_cases h4 : 300 < f.hosts.length
  · rw [if_pos h4] at h; cases h
  rw [if_neg h4] at h
  have hi := itemsGo_all f.items 0 (by omega)
  have hh := fun i hi => hostE_all (hostsGo_all f.hosts 0 h i (Nat.zero_le _) hi)
  have hs : ∀ j, j < f.hosts.length → (hstAt f.hosts j).2.2.2.length ≤ 200 ∧ startsGo (hstAt f.hosts j).2.2.2 0 = 0 := fun j hj => by
    have := (hh j hj).2.2.2
    unfold startsE at this
    split at this
    · cases this
    · exact ⟨by omega, this⟩
  refine ⟨by simpa using fun e => h1 (.inl (decide_eq_false e)), by simpa using fun e => h1 (.inr (decide_eq_false e)), by omega, by omega, fun j hj => (hi j (by omega) hj).1,
    ascB_of _ _ fun j h0 hj hl => (hi j (by omega) hj).2 ⟨h0, hl⟩, ascB_of _ _ fun j h0 hj hl => (hh j hj).2.1 ⟨h0, hl⟩, fun j hj => (hh j hj).1, fun j hj => (hh j hj).2.2.1, fun j hj => (hs j hj).1, fun j hj k hk => ?_⟩
  obtain ⟨k1, k2⟩ := startsGo_all _ 0 (hs j hj).2 k (Nat.zero_le _) hk
  exact ⟨k1, fun h0 => by omega⟩
/-- The fault of a frontier and a moment. -/
def atE (f : Frt) (t : Int) : Nat := if frE f ≠ 0 then frE f else if decide (okM t) = false then 1 else 0
def nextC (f : Frt) (t : Int) : Int × Bool × Nat := if atE f t ≠ 0 then (0, false, atE f t) else (max (nextGo f.items (rdyP f t) 0 (-1)) 0, decide (0 ≤ nextGo f.items (rdyP f t) 0 (-1)), 0)
/-- When an item can be fetched. -/
def waitN (f : Frt) (t : Int) (x : Wnt) : Int := max t (max x.2.2 (opensP f (hostK x.1)).1)
def waitGo (L : List Wnt) (n : Wnt → Int) (o : Wnt → Bool) (j : Nat) (b : Int) : Int :=
  if j < L.length then waitGo L n o (j + 1) (if o (wntAt L j) = true ∧ n (wntAt L j) ≤ 253402300799 ∧ (b < 0 ∨ n (wntAt L j) < b) then n (wntAt L j) else b) else b
termination_by L.length - j
def opnP (f : Frt) (x : Wnt) : Bool := (opensP f (hostK x.1)).2
def waitC (f : Frt) (t : Int) : Int × Nat := if atE f t ≠ 0 then (0, atE f t) else (waitGo f.items (waitN f t) (opnP f) 0 (-1), 0)
/-- How often a host was asked. -/
def spentGo (l : List Int) (lo hi : Int) (j : Nat) : Nat := if j < l.length then (if lo < l[j]?.getD 0 ∧ l[j]?.getD 0 ≤ hi then 1 else 0) + spentGo l lo hi (j + 1) else 0
termination_by l.length - j
def spentC (f : Frt) (s : Bs) (t : Int) : Int × Nat := if atE f t ≠ 0 then (0, atE f t) else if thereB (nameAt f.hosts) f.hosts.length s = false then (0, 9) else (spentGo (hstAt f.hosts (lbB (nameAt f.hosts) f.hosts.length s)).2.2.2 (t - f.window) t 0, 0)
end Go.Proofs.YtnainpghpjelcaaGreatDoor
