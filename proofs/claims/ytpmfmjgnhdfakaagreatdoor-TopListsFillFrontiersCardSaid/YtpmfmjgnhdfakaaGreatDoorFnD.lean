/-
  FRONTIER: find, opens, next (program). (WITH run_drawN.)
-/
import Derived.Test.YtpmfmjgnhdfakaaGreatDoorFnA
import Derived.Test.YtpmfmjgnhdfakaaGreatDoorLb
set_option linter.unusedSimpArgs false
set_option linter.unusedVariables false
namespace Go.Proofs.YtpmfmjgnhdfakaaGreatDoor
open Go.Lw Go.RowKit
set_option maxRecDepth 100000
set_option maxHeartbeats 2000000

abbrev nameAt (H : List Hst) (j : Nat) : Bs := (hstAt H j).1
/-- From when on a host is open; whether it ever is. -/
def opensP (f : Frt) (s : Bs) : Int × Bool :=
  if thereB (nameAt f.hosts) f.hosts.length s = false then (0, true)
  else if (hstAt f.hosts (lbB (nameAt f.hosts) f.hosts.length s)).2.2.1 = true then (0, false)
  else (if f.budget ≤ (hstAt f.hosts (lbB (nameAt f.hosts) f.hosts.length s)).2.2.2.length then
    max (hstAt f.hosts (lbB (nameAt f.hosts) f.hosts.length s)).2.1 ((hstAt f.hosts (lbB (nameAt f.hosts) f.hosts.length s)).2.2.2[((hstAt f.hosts (lbB (nameAt f.hosts) f.hosts.length s)).2.2.2.length - f.budget.toNat)]?.getD 0 + f.window) else (hstAt f.hosts (lbB (nameAt f.hosts) f.hosts.length s)).2.1, true)
/-- What the check of a frontier gives. -/
structure FrGood (f : Frt) : Prop where
  budget : 1 ≤ f.budget ∧ f.budget ≤ 200
  window : 1 ≤ f.window ∧ f.window ≤ 100000000
  items : f.items.length ≤ 2000
  hosts : f.hosts.length ≤ 300
  wnt : ∀ j, j < f.items.length → wntE (wntAt f.items j) = 0
  keys : ascB (fun j => (wntAt f.items j).1) f.items.length
  names : ascB (nameAt f.hosts) f.hosts.length
  isHo : ∀ j, j < f.hosts.length → isHo (nameAt f.hosts j) = true
  free : ∀ j, j < f.hosts.length → 0 ≤ (hstAt f.hosts j).2.1 ∧ (hstAt f.hosts j).2.1 ≤ 253502300799
  many : ∀ j, j < f.hosts.length → (hstAt f.hosts j).2.2.2.length ≤ 200
  starts : ∀ j, j < f.hosts.length → ∀ k, k < (hstAt f.hosts j).2.2.2.length → okM ((hstAt f.hosts j).2.2.2[k]?.getD 0) ∧ (0 < k → (hstAt f.hosts j).2.2.2[k - 1]?.getD 0 ≤ (hstAt f.hosts j).2.2.2[k]?.getD 0)
/-- Is an item more urgent than another one? -/
abbrev better (a b : Wnt) : Prop := a.2.1 < b.2.1 ∨ (a.2.1 = b.2.1 ∧ a.2.2 < b.2.2)
/-- May an item be fetched at a moment? -/
def rdyP (f : Frt) (t : Int) (x : Wnt) : Bool := decide (x.2.2 ≤ t) && (opensP f (hostK x.1)).2 && decide ((opensP f (hostK x.1)).1 ≤ t)
def nextGo (L : List Wnt) (r : Wnt → Bool) (j : Nat) (b : Int) : Int :=
  if j < L.length then nextGo L r (j + 1) (if r (wntAt L j) = true ∧ (b < 0 ∨ better (wntAt L j) (wntAt L b.toNat)) then (j : Int) else b) else b
termination_by L.length - j
end Go.Proofs.YtpmfmjgnhdfakaaGreatDoor
/-
  FRONTIER: Next, Wait, Spent (program). (WITH run_drawN.)
-/
set_option linter.unusedSimpArgs false
set_option linter.unusedVariables false
namespace Go.Proofs.YtpmfmjgnhdfakaaGreatDoor
open Go.Lw Go.RowKit
set_option maxRecDepth 100000
set_option maxHeartbeats 2000000

theorem itemsGo_all (L : List Wnt) (j : Nat) (h : itemsGo L j = 0) : ∀ i, j ≤ i → i < L.length → wntE (wntAt L i) = 0 ∧ ¬ (0 < i ∧ leB (wntAt L i).1 (wntAt L (i - 1)).1) := by
  intro i hji hi
  rw [itemsGo, if_pos (by omega)] at h
  by_cases h1 : wntE (wntAt L j) ≠ 0
  · rw [if_pos h1] at h; exact absurd h h1
  · rw [if_neg h1] at h
    by_cases h2 : 0 < j ∧ leB (wntAt L j).1 (wntAt L (j - 1)).1
    · rw [if_pos h2] at h; cases h
    · rw [if_neg h2] at h
      rcases Nat.lt_or_ge j i with h3 | h3
      · exact itemsGo_all L (j + 1) h i (by omega) hi
      · obtain rfl : i = j := by omega
        exact ⟨by omega, h2⟩
termination_by L.length - j
theorem startsGo_all (l : List Int) (j : Nat) (h : startsGo l j = 0) : ∀ i, j ≤ i → i < l.length → okM (l[i]?.getD 0) ∧ ¬ (0 < i ∧ l[i]?.getD 0 < l[i - 1]?.getD 0) := by
  intro i hji hi
  rw [startsGo, if_pos (by omega)] at h
  by_cases h1 : decide (okM (l[j]?.getD 0)) = false
  · rw [if_pos h1] at h; cases h
  · rw [if_neg h1] at h
    by_cases h2 : 0 < j ∧ l[j]?.getD 0 < l[j - 1]?.getD 0
    · rw [if_pos h2] at h; cases h
    · rw [if_neg h2] at h
      rcases Nat.lt_or_ge j i with h3 | h3
      · exact startsGo_all l (j + 1) h i (by omega) hi
      · obtain rfl : i = j := by omega
        exact ⟨by simpa using h1, h2⟩
termination_by l.length - j
theorem hostsGo_all (L : List Hst) (j : Nat) (h : hostsGo L j = 0) : ∀ i, j ≤ i → i < L.length → hostE L i = 0 := by
  intro i hji hi
  rw [hostsGo, if_pos (by omega)] at h
  by_cases h1 : hostE L j ≠ 0
  · rw [if_pos h1] at h; exact absurd h h1
  · rw [if_neg h1] at h
    rcases Nat.lt_or_ge j i with h3 | h3
    · exact hostsGo_all L (j + 1) h i (by omega) hi
    · obtain rfl : i = j := by omega
      omega
termination_by L.length - j
theorem hostE_all {L : List Hst} {j : Nat} (h : hostE L j = 0) : isHo (nameAt L j) = true ∧ ¬ (0 < j ∧ leB (nameAt L j) (nameAt L (j - 1))) ∧ (0 ≤ (hstAt L j).2.1 ∧ (hstAt L j).2.1 ≤ 253502300799) ∧ startsE (hstAt L j).2.2.2 = 0 := by
  unfold hostE at h
  by_cases h1 : isHo (hstAt L j).1 = false
  · rw [if_pos h1] at h; cases h
  rw [if_neg h1] at h
  by_cases h2 : 0 < j ∧ leB (hstAt L j).1 (hstAt L (j - 1)).1
  · rw [if_pos h2] at h; cases h
  rw [if_neg h2] at h
  by_cases h3 : decide (0 ≤ (hstAt L j).2.1 ∧ (hstAt L j).2.1 ≤ 253502300799) = false
  · rw [if_pos h3] at h; cases h
  rw [if_neg h3] at h
  exact ⟨by simpa using h1, h2, by simpa using h3, h⟩
theorem frE_good {f : Frt} (h : frE f = 0) : FrGood f := by
  unfold frE at h
  by_cases h1 : decide (1 ≤ f.budget ∧ f.budget ≤ 200) = false ∨ decide (1 ≤ f.window ∧ f.window ≤ 100000000) = false
  · rw [if_pos h1] at h; cases h
  rw [if_neg h1] at h
  by_cases h2 : 2000 < f.items.length
  · rw [if_pos h2] at h; cases h
  rw [if_neg h2] at h
  by_cases h3 : itemsGo f.items 0 ≠ 0
  · rw [if_pos h3] at h; exact absurd h h3
  rw [if_neg h3] at h
  by_cases h4 : 300 < f.hosts.length
  · rw [if_pos h4] at h; cases h
  rw [if_neg h4] at h
  have hi := itemsGo_all f.items 0 (by omega)
  have hh := fun i hi => hostE_all (hostsGo_all f.hosts 0 h i (Nat.zero_le _) hi)
  have hs : ∀ j, j < f.hosts.length → (hstAt f.hosts j).2.2.2.length ≤ 200 ∧ startsGo (hstAt f.hosts j).2.2.2 0 = 0 := fun j hj => by
    have := (hh j hj).2.2.2
    unfold startsE at this
    split at this
    · cases this
    · exact ⟨by omega, this⟩
  refine ⟨by simpa using fun e => h1 (.inl (decide_eq_false e)), by simpa using fun e => h1 (.inr (decide_eq_false e)), by omega, by omega, fun j hj => (hi j (by omega) hj).1,
    ascB_of _ _ fun j h0 hj hl => (hi j (by omega) hj).2 ⟨h0, hl⟩, ascB_of _ _ fun j h0 hj hl => (hh j hj).2.1 ⟨h0, hl⟩, fun j hj => (hh j hj).1, fun j hj => (hh j hj).2.2.1, fun j hj => (hs j hj).1, fun j hj k hk => ?_⟩
  obtain ⟨k1, k2⟩ := startsGo_all _ 0 (hs j hj).2 k (Nat.zero_le _) hk
  exact ⟨k1, fun h0 => by omega⟩
/-- The fault of a frontier and a moment. -/
def atE (f : Frt) (t : Int) : Nat := if frE f ≠ 0 then frE f else if decide (okM t) = false then 1 else 0
def nextC (f : Frt) (t : Int) : Int × Bool × Nat := if atE f t ≠ 0 then (0, false, atE f t) else (max (nextGo f.items (rdyP f t) 0 (-1)) 0, decide (0 ≤ nextGo f.items (rdyP f t) 0 (-1)), 0)
/-- When an item can be fetched. -/
def waitN (f : Frt) (t : Int) (x : Wnt) : Int := max t (max x.2.2 (opensP f (hostK x.1)).1)
def waitGo (L : List Wnt) (n : Wnt → Int) (o : Wnt → Bool) (j : Nat) (b : Int) : Int :=
  if j < L.length then waitGo L n o (j + 1) (if o (wntAt L j) = true ∧ n (wntAt L j) ≤ 253402300799 ∧ (b < 0 ∨ n (wntAt L j) < b) then n (wntAt L j) else b) else b
termination_by L.length - j
def opnP (f : Frt) (x : Wnt) : Bool := (opensP f (hostK x.1)).2
def waitC (f : Frt) (t : Int) : Int × Nat := if atE f t ≠ 0 then (0, atE f t) else (waitGo f.items (waitN f t) (opnP f) 0 (-1), 0)
/-- How often a host was asked. -/
def spentGo (l : List Int) (lo hi : Int) (j : Nat) : Nat := if j < l.length then (if lo < l[j]?.getD 0 ∧ l[j]?.getD 0 ≤ hi then 1 else 0) + spentGo l lo hi (j + 1) else 0
termination_by l.length - j
def spentC (f : Frt) (s : Bs) (t : Int) : Int × Nat := if atE f t ≠ 0 then (0, atE f t) else if thereB (nameAt f.hosts) f.hosts.length s = false then (0, 9) else (spentGo (hstAt f.hosts (lbB (nameAt f.hosts) f.hosts.length s)).2.2.2 (t - f.window) t 0, 0)
end Go.Proofs.YtpmfmjgnhdfakaaGreatDoor
