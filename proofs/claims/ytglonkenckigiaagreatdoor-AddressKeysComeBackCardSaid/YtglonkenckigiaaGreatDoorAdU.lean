/-
  DOMAINS, IN PLAIN LEAN.
-/
import Derived.Test.YtglonkenckigiaaGreatDoorAdS
set_option linter.unusedSimpArgs false
set_option linter.unusedVariables false
namespace Go.Proofs.YtglonkenckigiaaGreatDoor
open Go.Lw
set_option maxRecDepth 100000
set_option maxHeartbeats 1000000

def isHostS (s : Bs) : Bool := isHostB s && decide (small s = s)
/-- The labels of a suffix. -/
def sufL (s : Bs) : Bs := if [42, 46] <+: s then s.drop 2 else if [33] <+: s then s.drop 1 else s
def leS (a b : Bs) : Bool := Op.bytesLess a b || a == b
def sufFrom (l : List Bs) (j : Nat) : Nat :=
  if j < l.length then
    (if isHostS (sufL (l[j]?.getD [])) = false then 3 else if 0 < j ∧ leS (l[j]?.getD []) (l[j - 1]?.getD []) = true then 8 else sufFrom l (j + 1))
  else 0
termination_by l.length - j
def sufC (l : List Bs) : Nat := if 500 < l.length then 2 else sufFrom l 0
theorem sufC_len {l : List Bs} (h : sufC l = 0) : l.length ≤ 500 := by
  unfold sufC at h
  split at h <;> omega
/-- The last n labels of a host, as a text. -/
def tailS (L : List Bs) (n : Nat) : Bs := Lib.join (L.drop (L.length - n)) [46]
def ruleX (L l : List Bs) (n : Nat) : Bool := decide ((33 :: tailS L n) ∈ l)
def ruleM (L l : List Bs) (n : Nat) : Bool := decide (tailS L n ∈ l) || (decide (1 < n) && decide ((42 :: 46 :: tailS L (n - 1)) ∈ l))
def mostN (L l : List Bs) : Nat → Nat
  | 0 => 1
  | n + 1 => if ruleM L l (n + 1) = true then n + 1 else mostN L l n
def notN (L l : List Bs) : Nat → Int
  | 0 => -1
  | n + 1 => if ruleX L l (n + 1) = true then n else notN L l n
/-- How many labels the suffix has. -/
def sfx (L l : List Bs) : Nat := if 0 ≤ notN L l L.length then (notN L l L.length).toNat else mostN L l L.length
def domC (host : Bs) (l : List Bs) : Bs × Bool × Nat :=
  if isHostS host = false then ([], false, 10) else if sufC l ≠ 0 then ([], false, sufC l)
  else if (Lib.split host [46]).length < sfx (Lib.split host [46]) l + 1 then ([], false, 0) else (tailS (Lib.split host [46]) (sfx (Lib.split host [46]) l + 1), true, 0)
theorem mostN_le (L l : List Bs) : ∀ n, mostN L l n ≤ max 1 n
  | 0 => by simp [mostN]
  | n + 1 => by
    have := mostN_le L l n
    simp only [mostN]
    split <;> omega
theorem mostN_pos (L l : List Bs) : ∀ n, 1 ≤ mostN L l n
  | 0 => by simp [mostN]
  | n + 1 => by
    have := mostN_pos L l n
    simp only [mostN]
    split <;> omega
theorem notN_lt (L l : List Bs) : ∀ n, -1 ≤ notN L l n ∧ notN L l n < n
  | 0 => by simp [notN]
  | n + 1 => by
    have := notN_lt L l n
    simp only [notN]
    split <;> omega
theorem mostN_stay (L l : List Bs) (m : Nat) : ∀ n, mostN L l n = m → ∀ j, m ≤ j → j ≤ n → mostN L l j = m
  | 0, h, j, h1, h2 => by
    obtain rfl : j = 0 := (by omega)
    exact h
  | n + 1, h, j, h1, h2 => by
    rcases Nat.lt_or_ge n j with h3 | h3
    · obtain rfl : j = n + 1 := by omega
      exact h
    · refine mostN_stay L l m n ?_ j h1 h3
      simp only [mostN] at h
      split at h
      · omega
      · exact h
theorem notN_at (L l : List Bs) (m : Nat) : ∀ n, notN L l n = m → notN L l (m + 1) = m ∧ m + 1 ≤ n
  | 0, h => by simp [notN] at h
  | n + 1, h => by
    simp only [notN] at h
    split at h
    · rename_i hr
      obtain rfl : n = m := by omega
      exact ⟨by simp only [notN, if_pos hr], by omega⟩
    · have := notN_at L l m n h
      exact ⟨this.1, by omega⟩
theorem notN_none (L l : List Bs) : ∀ n, notN L l n < 0 → ∀ j, j ≤ n → notN L l j < 0
  | 0, h, j, h2 => by
    obtain rfl : j = 0 := (by omega)
    exact h
  | n + 1, h, j, h2 => by
    rcases Nat.lt_or_ge n j with h3 | h3
    · obtain rfl : j = n + 1 := by omega
      exact h
    · refine notN_none L l n ?_ j h3
      simp only [notN] at h
      split at h
      · omega
      · exact h
theorem sfx_le (L l : List Bs) (hL : 1 ≤ L.length) : sfx L l ≤ L.length := by
  have h1 := mostN_le L l L.length
  have h2 := notN_lt L l L.length
  unfold sfx
  split <;> omega
theorem tailS_drop (L : List Bs) (k n : Nat) (hk : k ≤ L.length) (hn : n ≤ k) : tailS (L.drop (L.length - k)) n = tailS L n := by
  unfold tailS
  rw [List.drop_drop]
  congr 2
  simp
  omega
theorem ruleX_drop (L l : List Bs) (k n : Nat) (hk : k ≤ L.length) (hn : n ≤ k) : ruleX (L.drop (L.length - k)) l n = ruleX L l n := by
  unfold ruleX; rw [tailS_drop L k n hk hn]
theorem ruleM_drop (L l : List Bs) (k n : Nat) (hk : k ≤ L.length) (hn : n ≤ k) : ruleM (L.drop (L.length - k)) l n = ruleM L l n := by
  unfold ruleM; rw [tailS_drop L k n hk hn, tailS_drop L k (n - 1) hk (by omega)]
theorem notN_drop (L l : List Bs) (k : Nat) (hk : k ≤ L.length) : ∀ n, n ≤ k → notN (L.drop (L.length - k)) l n = notN L l n
  | 0, _ => rfl
  | n + 1, h => by simp only [notN]; rw [ruleX_drop L l k (n + 1) hk h, notN_drop L l k hk n (by omega)]
theorem mostN_drop (L l : List Bs) (k : Nat) (hk : k ≤ L.length) : ∀ n, n ≤ k → mostN (L.drop (L.length - k)) l n = mostN L l n
  | 0, _ => rfl
  | n + 1, h => by simp only [mostN]; rw [ruleM_drop L l k (n + 1) hk h, mostN_drop L l k hk n (by omega)]
/-- The suffix of a domain is that of its host. -/
theorem sfx_drop (L l : List Bs) (h : sfx L l + 1 ≤ L.length) : sfx (L.drop (L.length - (sfx L l + 1))) l = sfx L l := by
  have hlen : (L.drop (L.length - (sfx L l + 1))).length = sfx L l + 1 := by simp; omega
  generalize hm : sfx L l = m at h hlen ⊢
  unfold sfx
  rw [hlen, notN_drop L l (m + 1) h (m + 1) (Nat.le_refl _), mostN_drop L l (m + 1) h (m + 1) (Nat.le_refl _)]
  unfold sfx at hm
  split at hm
  · rename_i h0
    have h1 := notN_at L l m L.length (by omega)
    rw [h1.1, if_pos (by omega)]
    omega
  · rename_i h0
    have h1 := notN_none L l L.length (by omega) (m + 1) h
    rw [if_neg (by omega)]
    exact mostN_stay L l m L.length hm (m + 1) (by omega) h
/-! Hosts and their ends. -/
theorem labB_dot {s : Bs} (h : isLab s = true) : (46 : UInt8) ∉ s := by
  simp only [isLab, Bool.and_eq_true, List.all_eq_true] at h
  intro hm
  have := h.2 46 hm
  revert this
  decide
theorem small_append (a b : Bs) : small (a ++ b) = small a ++ small b := by simp [small]
theorem host_end_ok {host : Bs} (hh : isHostS host = true) (k : Nat) (h1 : 1 ≤ k) (h2 : k ≤ (Lib.split host [46]).length) :
    isHostS (tailS (Lib.split host [46]) k) = true ∧ Lib.split (tailS (Lib.split host [46]) k) [46] = (Lib.split host [46]).drop ((Lib.split host [46]).length - k) ∧
    (tailS (Lib.split host [46]) k = host ∨ (46 :: tailS (Lib.split host [46]) k) <:+ host) := by
  have hj := join_split 46 host
  have hfree := split_free 46 host
  simp only [isHostS, isHostB, Bool.and_eq_true, decide_eq_true_eq, List.all_eq_true] at hh
  obtain ⟨⟨hlen, hlab⟩, hsm⟩ := hh
  generalize Lib.split host [46] = L at hj hfree hlab h2 ⊢
  have hsp : Lib.split (tailS L k) [46] = L.drop (L.length - k) := split_join 46 _ (by intro e; have := congrArg List.length e; simp at this; omega) (fun x hx => hfree x (List.mem_of_mem_drop hx))
  have hend : tailS L k = host ∨ (46 :: tailS L k) <:+ host := by
    unfold tailS
    rcases join_end 46 L (L.length - k) (by omega) with e | ⟨p, hp⟩
    · left; rw [e, List.drop_zero, hj]
    · right; exact ⟨p, by rw [← hj, hp]⟩
  refine ⟨?_, hsp, hend⟩
  have hsuf : ∃ p, host = p ++ tailS L k := by
    rcases hend with e | ⟨p, hp⟩
    · exact ⟨[], by simp [e]⟩
    · exact ⟨p ++ [46], by rw [← hp]; simp⟩
  obtain ⟨p, hp⟩ := hsuf
  simp only [isHostS, isHostB, Bool.and_eq_true, decide_eq_true_eq, List.all_eq_true]
  refine ⟨⟨?_, fun x hx => ?_⟩, ?_⟩
  · have := congrArg List.length hp
    simp at this
    omega
  · rw [hsp] at hx
    exact hlab x (List.mem_of_mem_drop hx)
  · rw [hp, small_append] at hsm
    exact (List.append_inj hsm (by simp [small])).2
/-- A domain ends its host, and is its own domain. -/
theorem domC_end {host : Bs} {l : List Bs} {s : Bs} (h : domC host l = (s, true, 0)) : (s = host ∨ (46 :: s) <:+ host) ∧ domC s l = (s, true, 0) := by
  unfold domC at h
  split at h
  · cases h
  rename_i hh
  split at h
  · cases h
  rename_i hs
  split at h
  · cases h
  rename_i hl
  obtain rfl : tailS (Lib.split host [46]) (sfx (Lib.split host [46]) l + 1) = s := (Prod.ext_iff.1 h).1
  obtain ⟨h1, h2, h3⟩ := host_end_ok (host := host) (by simpa using hh) (sfx (Lib.split host [46]) l + 1) (by omega) (by omega)
  refine ⟨h3, ?_⟩
  generalize Lib.split host [46] = L at hl h1 h2 h3 ⊢
  have h4 := sfx_drop L l (by omega)
  unfold domC
  rw [if_neg (by rw [h1]; decide), if_neg hs, h2, h4, if_neg (by simp; omega)]
  rw [tailS_drop L (sfx L l + 1) (sfx L l + 1) (by omega) (Nat.le_refl _)]
theorem domC_no {host : Bs} {l : List Bs} (h : (domC host l).2.1 = false ∨ (domC host l).2.2 ≠ 0) : (domC host l).1 = [] := by
  unfold domC at h ⊢
  split
  · rfl
  rename_i h1
  split
  · rfl
  rename_i h2
  split
  · rfl
  rename_i h3
  rw [if_neg h1, if_neg h2, if_neg h3] at h
  simp at h
theorem domC_cases (host : Bs) (l : List Bs) : (domC host l).1 = [] ∧ ((domC host l).2.1 = false) ∨ domC host l = ((domC host l).1, true, 0) := by
  unfold domC
  split
  · exact .inl ⟨rfl, rfl⟩
  split
  · exact .inl ⟨rfl, rfl⟩
  split
  · exact .inl ⟨rfl, rfl⟩
  · exact .inr rfl
end Go.Proofs.YtglonkenckigiaaGreatDoor
