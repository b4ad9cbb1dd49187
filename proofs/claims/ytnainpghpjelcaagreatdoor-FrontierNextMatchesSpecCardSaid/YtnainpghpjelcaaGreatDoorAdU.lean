/-
  DIVIDED AND JOINED, IN PLAIN LEAN.
-/
import Derived.Test.YtnainpghpjelcaaGreatDoorAdK
set_option linter.unusedSimpArgs false
set_option linter.unusedVariables false
namespace Go.Proofs.YtnainpghpjelcaaGreatDoor
open Go.Lw
set_option maxRecDepth 100000
set_option maxHeartbeats 1000000

theorem ix_none (c : UInt8) (s : Bs) (h : c ∉ s) : Lib.index s [c] = -1 := by
  rw [Lib.index_one]
  have h1 := index_neg s c
  have h2 := Lib.indexByte_ge s c
  have : s.contains c = false := by simpa using h
  have := h1.2 this
  omega
theorem ix_app (c : UInt8) : ∀ (x y : Bs), c ∉ x → Lib.index (x ++ c :: y) [c] = x.length := by
  intro x y h
  rw [Lib.index_one]
  induction x with
  | nil => simp [Lib.indexByte]
  | cons b x ih =>
    have h1 : ¬ b = c := fun e => h (by rw [e]; exact List.mem_cons_self)
    have h2 := ih (fun e => h (List.mem_cons_of_mem _ e))
    simp only [List.cons_append, Lib.indexByte, h2]
    rw [if_neg (by simpa using h1), if_neg (by first | (simp; done) | (simp; omega))]
    simp
/-- A text is free of a byte, or has it for the first time somewhere. -/
theorem parted (c : UInt8) (s : Bs) : c ∉ s ∨ ∃ x y, s = x ++ c :: y ∧ c ∉ x := by
  by_cases h : c ∈ s
  · right
    induction s with
    | nil => cases h
    | cons b s ih =>
      by_cases hb : b = c
      · exact ⟨[], s, by rw [hb]; rfl, by simp⟩
      · obtain ⟨x, y, e, hx⟩ := ih (by cases h with | head => exact absurd rfl hb | tail _ h => exact h)
        exact ⟨b :: x, y, by rw [e]; rfl, by simp; exact ⟨fun e => hb e.symm, hx⟩⟩
  · exact .inl h
theorem split_none (c : UInt8) (s : Bs) (h : c ∉ s) : Lib.split s [c] = [s] := by
  unfold Lib.split
  rw [Lib.count_miss (ix_none c s h)]
  rfl
theorem split_app (c : UInt8) (x y : Bs) (h : c ∉ x) : Lib.split (x ++ c :: y) [c] = x :: Lib.split y [c] := by
  have hi := ix_app c x y h
  unfold Lib.split
  rw [Lib.count_hit (by simp) hi, Nat.add_comm 1, Lib.splitK, if_neg (by rw [hi]; first | (simp; done) | (simp; omega)), hi]
  have e : (x ++ c :: y).drop (x.length + 1) = y := by
    rw [show x ++ c :: y = (x ++ [c]) ++ y by simp]
    exact List.drop_left' (by simp)
  simp only [Int.toNat_natCast, List.length_cons, List.length_nil, Nat.zero_add, Nat.add_zero, e]
  rw [List.take_left]
theorem split_ne (c : UInt8) (s : Bs) : Lib.split s [c] ≠ [] := by
  rcases parted c s with h | ⟨x, y, rfl, h⟩
  · rw [split_none c s h]; simp
  · rw [split_app c x y h]; simp
theorem join_two (x y : Bs) (L : List Bs) (s : Bs) : Lib.join (x :: y :: L) s = x ++ s ++ Lib.join (y :: L) s := by
  rw [Lib.join_cons, Lib.join_cons]
  simp [Lib.joinTail]
theorem join_step (x : Bs) (L : List Bs) (s : Bs) (h : L ≠ []) : Lib.join (x :: L) s = x ++ s ++ Lib.join L s := by
  cases L with
  | nil => exact absurd rfl h
  | cons y L => exact join_two x y L s
theorem join_split (c : UInt8) (s : Bs) : Lib.join (Lib.split s [c]) [c] = s := by
  generalize hn : s.length = n
  induction n using Nat.strongRecOn generalizing s with
  | _ n ih =>
    rcases parted c s with h | ⟨x, y, rfl, h⟩
    · rw [split_none c s h, Lib.join_one]
    · rw [split_app c x y h, join_step _ _ _ (split_ne c y), ih y.length (by simp at hn; omega) y rfl]
      simp
theorem split_free (c : UInt8) (s : Bs) : ∀ x ∈ Lib.split s [c], c ∉ x := by
  generalize hn : s.length = n
  induction n using Nat.strongRecOn generalizing s with
  | _ n ih =>
    rcases parted c s with h | ⟨x, y, rfl, h⟩
    · rw [split_none c s h]; simpa using h
    · rw [split_app c x y h]
      intro z hz
      cases hz with
      | head => exact h
      | tail _ hz => exact ih y.length (by simp at hn; omega) y rfl z hz
theorem split_join (c : UInt8) : ∀ L : List Bs, L ≠ [] → (∀ x ∈ L, c ∉ x) → Lib.split (Lib.join L [c]) [c] = L
  | [], h, _ => absurd rfl h
  | [x], _, h => by rw [Lib.join_one, split_none c x (h x (by simp))]
  | x :: y :: L, _, h => by
    rw [join_two, List.append_assoc, List.singleton_append, split_app c x _ (h x (by simp)), split_join c (y :: L) (by simp) (fun z hz => h z (List.mem_cons_of_mem _ hz))]
theorem cut_one (c : UInt8) (x : Bs) (h : c ∉ x) : Lib.cut x [c] = (x, [], false) := by
  unfold Lib.cut
  rw [ix_none c x h, if_neg (by omega)]
theorem cut_app (c : UInt8) (x y : Bs) (h : c ∉ x) : Lib.cut (x ++ c :: y) [c] = (x, y, true) := by
  unfold Lib.cut
  rw [ix_app c x y h, if_pos (by omega)]
  have e : (x ++ c :: y).drop (x.length + 1) = y := by
    rw [show x ++ c :: y = (x ++ [c]) ++ y by simp]
    exact List.drop_left' (by simp)
  simp [e]
/-- The end of what was joined. -/
theorem join_end (c : UInt8) : ∀ (L : List Bs) (k : Nat), k < L.length → (k = 0 ∨ ∃ p, Lib.join L [c] = p ++ c :: Lib.join (L.drop k) [c])
  | [], k, h => by simp at h
  | x :: L, 0, h => .inl rfl
  | x :: L, k + 1, h => by
    have hL : L ≠ [] := by rintro rfl; simp at h
    have hk : k < L.length := by simpa using h
    right
    rw [join_step _ _ _ hL, List.drop_succ_cons]
    rcases join_end c L k hk with rfl | ⟨p, hp⟩
    · exact ⟨x, by simp⟩
    · exact ⟨x ++ [c] ++ p, by rw [hp]; simp⟩
end Go.Proofs.YtnainpghpjelcaaGreatDoor
/-
  DOMAINS, IN PLAIN LEAN.
-/
set_option linter.unusedSimpArgs false
set_option linter.unusedVariables false
namespace Go.Proofs.YtnainpghpjelcaaGreatDoor
open Go.Lw
set_option maxRecDepth 100000
set_option maxHeartbeats 1000000

def isHostS (s : Bs) : Bool := isHostB s && decide (small s = s)
/-- The labels of a suffix. -/
def sufL (s : Bs) : Bs := if [42, 46] <+: s then s.drop 2 else if [33] <+: s then s.drop 1 else s
def leS (a b : Bs) : Bool := Op.bytesLess a b || a == b
def sufFrom (l : List Bs) (j : Nat) : Nat :=
  if j < l.length then
    (if isHostS (sufL (l[j]?.getD [])) = false then 3 else if 0 < j ∧ leS (l[j]?.getD []) (l[j - 1]?.getD []) = true then 8 else sufFrom l (j + 1))
  else 0
termination_by l.length - j
def sufC (l : List Bs) : Nat := if 500 < l.length then 2 else sufFrom l 0
theorem sufC_len {l : List Bs} (h : sufC l = 0) : l.length ≤ 500 := by
  unfold sufC at h
  split at h <;> omega
/-- The last n labels of a host, as a text. -/
def tailS (L : List Bs) (n : Nat) : Bs := Lib.join (L.drop (L.length - n)) [46]
def ruleX (L l : List Bs) (n : Nat) : Bool := decide ((33 :: tailS L n) ∈ l)
def ruleM (L l : List Bs) (n : Nat) : Bool := decide (tailS L n ∈ l) || (decide (1 < n) && decide ((42 :: 46 :: tailS L (n - 1)) ∈ l))
def mostN (L l : List Bs) : Nat → Nat
  | 0 => 1
  | n + 1 => if ruleM L l (n + 1) = true then n + 1 else mostN L l n
def notN (L l : List Bs) : Nat → Int
  | 0 => -1
  | n + 1 => if ruleX L l (n + 1) = true then n else notN L l n
/-- How many labels the suffix has. -/
def sfx (L l : List Bs) : Nat := if 0 ≤ notN L l L.length then (notN L l L.length).toNat else mostN L l L.length
def domC (host : Bs) (l : List Bs) : Bs × Bool × Nat :=
  if isHostS host = false then ([], false, 10) else if sufC l ≠ 0 then ([], false, sufC l)
  else if (Lib.split host [46]).length < sfx (Lib.split host [46]) l + 1 then ([], false, 0) else (tailS (Lib.split host [46]) (sfx (Lib.split host [46]) l + 1), true, 0)
theorem mostN_le (L l : List Bs) : ∀ n, mostN L l n ≤ max 1 n
  | 0 => by simp [mostN]
  | n + 1 => by
    have := mostN_le L l n
    simp only [mostN]
    split <;> omega
theorem mostN_pos (L l : List Bs) : ∀ n, 1 ≤ mostN L l n
  | 0 => by simp [mostN]
  | n + 1 => by
    have := mostN_pos L l n
    simp only [mostN]
    split <;> omega
theorem notN_lt (L l : List Bs) : ∀ n, -1 ≤ notN L l n ∧ notN L l n < n
  | 0 => by simp [notN]
  | n + 1 => by
    have := notN_lt L l n
    simp only [notN]
    split <;> omega
theorem mostN_stay (L l : List Bs) (m : Nat) : ∀ n, mostN L l n = m → ∀ j, m ≤ j → j ≤ n → mostN L l j = m
  | 0, h, j, h1, h2 => by
    obtain rfl : j = 0 := (by omega)
    exact h
  | n + 1, h, j, h1, h2 => by
    rcases Nat.lt_or_ge n j with h3 | h3
    · obtain rfl : j = n + 1 := by omega
      exact h
    · refine mostN_stay L l m n ?_ j h1 h3
      simp only [mostN] at h
      split at h
      · omega
      · exact h
theorem notN_at (L l : List Bs) (m : Nat) : ∀ n, notN L l n = m → notN L l (m + 1) = m ∧ m + 1 ≤ n
  | 0, h => by simp [notN] at h
  | n + 1, h => by
    simp only [notN] at h
    split at h
    · rename_i hr
      obtain rfl : n = m := by omega
      exact ⟨by simp only [notN, if_pos hr], by omega⟩
    · have := notN_at L l m n h
      exact ⟨this.1, by omega⟩
theorem notN_none (L l : List Bs) : ∀ n, notN L l n < 0 → ∀ j, j ≤ n → notN L l j < 0
  | 0, h, j, h2 => by
    obtain rfl : j = 0 := (by omega)
    exact h
  | n + 1, h, j, h2 => by
    rcases Nat.lt_or_ge n j with h3 | h3
    · obtain rfl : j = n + 1 := by omega
      exact h
    · refine notN_none L l n ?_ j h3
      simp only [notN] at h
      split at h
      · omega
      · exact h
theorem sfx_le (L l : List Bs) (hL : 1 ≤ L.length) : sfx L l ≤ L.length := by
  have h1 := mostN_le L l L.length
  have h2 := notN_lt L l L.length
  unfold sfx
  split <;> omega
theorem tailS_drop (L : List Bs) (k n : Nat) (hk : k ≤ L.length) (hn : n ≤ k) : tailS (L.drop (L.length - k)) n = tailS L n := by
  unfold tailS
  rw [List.drop_drop]
  congr 2
  simp
  omega
theorem ruleX_drop (L l : List Bs) (k n : Nat) (hk : k ≤ L.length) (hn : n ≤ k) : ruleX (L.drop (L.length - k)) l n = ruleX L l n := by
  unfold ruleX; rw [tailS_drop L k n hk hn]
theorem ruleM_drop (L l : List Bs) (k n : Nat) (hk : k ≤ L.length) (hn : n ≤ k) : ruleM (L.drop (L.length - k)) l n = ruleM L l n := by
  unfold ruleM; rw [tailS_drop L k n hk hn, tailS_drop L k (n - 1) hk (by omega)]
theorem notN_drop (L l : List Bs) (k : Nat) (hk : k ≤ L.length) : ∀ n, n ≤ k → notN (L.drop (L.length - k)) l n = notN L l n
  | 0, _ => rfl
  | n + 1, h => by simp only [notN]; rw [ruleX_drop L l k (n + 1) hk h, notN_drop L l k hk n (by omega)]
theorem mostN_drop (L l : List Bs) (k : Nat) (hk : k ≤ L.length) : ∀ n, n ≤ k → mostN (L.drop (L.length - k)) l n = mostN L l n
  | 0, _ => rfl
  | n + 1, h => by simp only [mostN]; rw [ruleM_drop L l k (n + 1) hk h, mostN_drop L l k hk n (by omega)]
/-- The suffix of a domain is that of its host. -/
theorem sfx_drop (L l : List Bs) (h : sfx L l + 1 ≤ L.length) : sfx (L.drop (L.length - (sfx L l + 1))) l = sfx L l := by
  have hlen : (L.drop (L.length - (sfx L l + 1))).length = sfx L l + 1 := by simp; omega
  generalize hm : sfx L l = m at h hlen ⊢
  unfold sfx
  rw [hlen, notN_drop L l (m + 1) h (m + 1) (Nat.le_refl _), mostN_drop L l (m + 1) h (m + 1) (Nat.le_refl _)]
  unfold sfx at hm
  split at hm
  · rename_i h0
    have h1 := notN_at L l m L.length (by omega)
    rw [h1.1, if_pos (by omega)]
    omega
  · rename_i h0
    have h1 := notN_none L l L.length (by omega) (m + 1) h
    rw [if_neg (by omega)]
    exact mostN_stay L l m L.length hm (m + 1) (by omega) h
/-! Hosts and their ends. -/
theorem labB_dot {s : Bs} (h : isLab s = true) : (46 : UInt8) ∉ s := by
  simp only [isLab, Bool.and_eq_true, List.all_eq_true] at h
  intro hm
  have := h.2 46 hm
  revert this
  decide
theorem small_append (a b : Bs) : small (a ++ b) = small a ++ small b := by simp [small]
theorem host_end_ok {host : Bs} (hh : isHostS host = true) (k : Nat) (h1 : 1 ≤ k) (h2 : k ≤ (Lib.split host [46]).length) :
    isHostS (tailS (Lib.split host [46]) k) = true ∧ Lib.split (tailS (Lib.split host [46]) k) [46] = (Lib.split host [46]).drop ((Lib.split host [46]).length - k) ∧
    (tailS (Lib.split host [46]) k = host ∨ (46 :: tailS (Lib.split host [46]) k) <:+ host) := by
  have hj := join_split 46 host
  have hfree := split_free 46 host
  simp only [isHostS, isHostB, Bool.and_eq_true, decide_eq_true_eq, List.all_eq_true] at hh
  obtain ⟨⟨hlen, hlab⟩, hsm⟩ := hh
  generalize Lib.split host [46] = L at hj hfree hlab h2 ⊢
  have hsp : Lib.split (tailS L k) [46] = L.drop (L.length - k) := split_join 46 _ (by intro e; have := congrArg List.length e; simp at this; omega) (fun x hx => hfree x (List.mem_of_mem_drop hx))
  have hend : tailS L k = host ∨ (46 :: tailS L k) <:+ host := by
    unfold tailS
    rcases join_end 46 L (L.length - k) (by omega) with e | ⟨p, hp⟩
    · left; rw [e, List.drop_zero, hj]
    · right; exact ⟨p, by rw [← hj, hp]⟩
  refine ⟨?_, hsp, hend⟩
  have hsuf : ∃ p, host = p ++ tailS L k := by
    rcases hend with e | ⟨p, hp⟩
    · exact ⟨[], by simp [e]⟩
    · exact ⟨p ++ [46], by rw [← hp]; simp⟩
  obtain ⟨p, hp⟩ := hsuf
  simp only [isHostS, isHostB, Bool.and_eq_true, decide_eq_true_eq, List.all_eq_true]
  refine ⟨⟨?_, fun x hx => ?_⟩, ?_⟩
  · have := congrArg List.length hp
    simp at this
    omega
  · rw [hsp] at hx
    exact hlab x (List.mem_of_mem_drop hx)
  · rw [hp, small_append] at hsm
    exact (List.append_inj hsm (by simp [small])).2
/-- A domain ends its host, and is its own domain. -/
theorem domC_end {host : Bs} {l : List Bs} {s : Bs} (h : domC host l = (s, true, 0)) : (s = host ∨ (46 :: s) <:+ host) ∧ domC s l = (s, true, 0) := by
  unfold domC at h
  split at h
  · cases h
  rename_i hh
  split at h
  · cases h
  rename_i hs
  split at h
  · cases h
  rename_i hl
  obtain rfl : tailS (Lib.split host [46]) (sfx (Lib.split host [46]) l + 1) = s := (Prod.ext_iff.1 h).1
  obtain ⟨h1, h2, h3⟩ := host_end_ok (host := host) (by simpa using hh) (sfx (Lib.split host [46]) l + 1) (by omega) (by omega)
  refine ⟨h3, ?_⟩
  generalize Lib.split host [46] = L at hl h1 h2 h3 ⊢
  have h4 := sfx_drop L l (by omega)
  unfold domC
  rw [if_neg (by rw [h1]; decide), if_neg hs, h2, h4, if_neg (by simp; omega)]
  rw [tailS_drop L (sfx L l + 1) (sfx L l + 1) (by omega) (Nat.le_refl _)]
theorem domC_no {host : Bs} {l : List Bs} (h : (domC host l).2.1 = false ∨ (domC host l).2.2 ≠ 0) : (domC host l).1 = [] := by
  unfold domC at h ⊢
  split
  · rfl
  rename_i h1
  split
  · rfl
  rename_i h2
  split
  · rfl
  rename_i h3
  rw [if_neg h1, if_neg h2, if_neg h3] at h
  simp at h
theorem domC_cases (host : Bs) (l : List Bs) : (domC host l).1 = [] ∧ ((domC host l).2.1 = false) ∨ domC host l = ((domC host l).1, true, 0) := by
  unfold domC
  split
  · exact .inl ⟨rfl, rfl⟩
  split
  · exact .inl ⟨rfl, rfl⟩
  split
  · exact .inl ⟨rfl, rfl⟩
  · exact .inr rfl
end Go.Proofs.YtnainpghpjelcaaGreatDoor
